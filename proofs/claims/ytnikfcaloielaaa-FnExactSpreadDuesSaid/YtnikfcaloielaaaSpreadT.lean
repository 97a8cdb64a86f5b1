/-
  The same spreading, kind by kind. No program in sight. Conditions as the laws say.
-/
import Derived.Test.YtnikfcaloielaaaSpreadR
namespace Go.Proofs.Ytnikfcaloielaaa
open Go.RowKit
set_option linter.unusedVariables false

def cpos (R : Nat → Int) (n : Nat) : Int := sumTo (fun i => if 0 ≤ R i then 1 else 0) n
theorem cpos_upd (R : Nat → Int) (b : Nat) : ∀ n, cpos R n - (if b < n then 1 else 0) ≤ cpos (upd R b (-1)) n := by
  intro n
  induction n with
  | zero => show (0 : Int) - _ ≤ 0; rw [if_neg (by omega)]; omega
  | succ n ih =>
    show (cpos R n + (if 0 ≤ R n then 1 else 0)) - _ ≤ cpos (upd R b (-1)) n + (if 0 ≤ upd R b (-1) n then 1 else 0)
    by_cases c : n = b
    · subst c
      rw [if_neg (by omega)] at ih
      rw [upd_at, if_pos (show n < n + 1 by omega), if_neg (show ¬ (0 : Int) ≤ -1 by omega)]
      split <;> omega
    · rw [upd_ne _ _ c]
      by_cases c2 : b < n
      · rw [if_pos c2] at ih
        rw [if_pos (show b < n + 1 by omega)]
        omega
      · rw [if_neg c2] at ih
        rw [if_neg (show ¬ b < n + 1 by omega)]
        omega
theorem cpos_gR (r : Nat → Int) (n : Nat) : ∀ t : Nat, cpos r n - t ≤ cpos (gR r n t) n := by
  intro t
  induction t with
  | zero => show cpos r n - (0 : Nat) ≤ cpos r n; omega
  | succ t ih =>
    have h := cpos_upd (gR r n t) (gB (gR r n t) n) n
    show cpos r n - (t + 1 : Nat) ≤ cpos (upd (gR r n t) (gB (gR r n t) n) (-1)) n
    split at h <;> omega
theorem cpos_some (R : Nat → Int) : ∀ n, 0 < cpos R n → ∃ i, i < n ∧ 0 ≤ R i := by
  intro n
  induction n with
  | zero => intro h; exact absurd h (by show ¬ (0 : Int) < 0; omega)
  | succ n ih =>
    intro h
    by_cases c : 0 ≤ R n
    · exact ⟨n, by omega, c⟩
    · have e : cpos R (n + 1) = cpos R n + (if 0 ≤ R n then 1 else 0) := rfl
      rw [if_neg c] at e
      obtain ⟨i, h1, h2⟩ := ih (by omega)
      exact ⟨i, by omega, h2⟩
theorem cpos_mask {kd r : Nat → Int} {n : Nat} (hr : ∀ i, 0 ≤ r i) (K : Int) : cpos (mask kd K r) n = cnt kd K n :=
  sum_congr n (fun i _ => by
    by_cases c : kd i = K
    · rw [if_pos c, if_pos (by unfold mask; rw [if_pos c]; exact hr i)]
    · rw [if_neg c, if_neg (by unfold mask; rw [if_neg c]; omega)])
/-- Rests, parts and what is left, behind all kinds below K and so many steps of kind K. -/
def tR (kd r L : Nat → Int) (n K t i : Nat) : Int := if kd i < K then gR (mask kd (kd i) r) n (L (kd i).toNat).toNat i else if kd i = K then gR (mask kd K r) n t i else r i
def tO (kd r q L : Nat → Int) (n K t i : Nat) : Int := if kd i < K then gO q (mask kd (kd i) r) n (L (kd i).toNat).toNat i else if kd i = K then gO q (mask kd K r) n t i else q i
def tL (L : Nat → Int) (K t k : Nat) : Int := if k < K then 0 else if k = K then L k - t else L k
section
variable {kd r q L : Nat → Int} {n K t : Nat}
theorem gR_off {i : Nat} (h : kd i ≠ K) : gR (mask kd K r) n t i = -1 := by
  rcases gR_cases (mask kd K r) n t i with h1 | h1
  · rw [h1]; unfold mask; rw [if_neg h]
  · exact h1
theorem tR_in {i : Nat} (h : kd i = K) : tR kd r L n K t i = gR (mask kd K r) n t i := by
  unfold tR
  rw [if_neg (by omega), if_pos h]
theorem gB_in (h : 0 ≤ gR (mask kd K r) n t (gB (gR (mask kd K r) n t) n)) : kd (gB (gR (mask kd K r) n t) n) = K := by
  apply Classical.byContradiction
  intro c
  rw [gR_off c] at h
  omega
theorem tR_step (hb : kd (gB (gR (mask kd K r) n t) n) = K) : tR kd r L n K (t + 1) = upd (tR kd r L n K t) (gB (gR (mask kd K r) n t) n) (-1) := by
  funext i
  by_cases c : i = gB (gR (mask kd K r) n t) n
  · rw [c, upd_at, tR_in hb]
    show upd _ _ _ _ = _
    rw [upd_at]
  · rw [upd_ne _ _ c]
    unfold tR
    have e : gR (mask kd K r) n (t + 1) i = gR (mask kd K r) n t i := upd_ne _ _ c
    rw [e]
theorem tO_step (hb : kd (gB (gR (mask kd K r) n t) n) = K) : tO kd r q L n K (t + 1) = upd (tO kd r q L n K t) (gB (gR (mask kd K r) n t) n) (tO kd r q L n K t (gB (gR (mask kd K r) n t) n) + 1) := by
  have e0 : ∀ u, tO kd r q L n K u (gB (gR (mask kd K r) n t) n) = gO q (mask kd K r) n u (gB (gR (mask kd K r) n t) n) := fun u => by
    unfold tO
    rw [if_neg (by omega), if_pos hb]
  funext i
  by_cases c : i = gB (gR (mask kd K r) n t) n
  · rw [c, upd_at, e0, e0]
    show upd _ _ _ _ = _
    rw [upd_at]
  · rw [upd_ne _ _ c]
    unfold tO
    have e : gO q (mask kd K r) n (t + 1) i = gO q (mask kd K r) n t i := upd_ne _ _ c
    rw [e]
theorem tL_at : tL L K t K = L K - t := by unfold tL; rw [if_neg (by omega), if_pos rfl]
theorem tL_step : tL L K (t + 1) = upd (tL L K t) K (L K - t - 1) := by
  funext i
  by_cases c : i = K
  · rw [c, upd_at, tL_at]; omega
  · rw [upd_ne _ _ c]
    unfold tL
    rw [if_neg c, if_neg c]
theorem mask_in {i : Nat} {k : Int} (h : kd i = k) : mask kd k r i = r i := if_pos h
theorem tR_next : tR kd r L n (K + 1) 0 = tR kd r L n K (L K).toNat := by
  funext i
  unfold tR
  rcases Int.lt_trichotomy (kd i) K with c | c | c
  · rw [if_pos (by omega), if_pos c]
  · rw [if_pos (by omega), if_neg (by omega), if_pos c, c, show ((K : Nat) : Int).toNat = K by omega]
  · rw [if_neg (show ¬ kd i < ((K + 1 : Nat) : Int) by omega), if_neg (show ¬ kd i < (K : Int) by omega), if_neg (show ¬ kd i = (K : Int) by omega)]
    split
    · rename_i h
      show mask kd _ r i = r i
      exact mask_in h
    · rfl
theorem tO_next : tO kd r q L n (K + 1) 0 = tO kd r q L n K (L K).toNat := by
  funext i
  unfold tO
  rcases Int.lt_trichotomy (kd i) K with c | c | c
  · rw [if_pos (by omega), if_pos c]
  · rw [if_pos (by omega), if_neg (by omega), if_pos c, c, show ((K : Nat) : Int).toNat = K by omega]
  · rw [if_neg (show ¬ kd i < ((K + 1 : Nat) : Int) by omega), if_neg (show ¬ kd i < (K : Int) by omega), if_neg (show ¬ kd i = (K : Int) by omega)]
    split <;> rfl
theorem tL_next (h : 0 ≤ L K) : tL L (K + 1) 0 = tL L K (L K).toNat := by
  funext i
  unfold tL
  rcases Nat.lt_trichotomy i K with c | c | c
  · rw [if_pos (by omega), if_pos c]
  · rw [if_pos (by omega), if_neg (by omega), if_pos c, c]; omega
  · rw [if_neg (show ¬ i < K + 1 by omega), if_neg (show ¬ i < K by omega), if_neg (show ¬ i = K by omega)]
    split <;> omega
theorem tR_start {i : Nat} (h : 0 ≤ kd i) : tR kd r L n 0 0 i = r i := by
  unfold tR
  rw [if_neg (by omega)]
  split
  · rename_i h
    show mask kd _ r i = r i
    exact mask_in h
  · rfl
theorem tO_start {i : Nat} (h : 0 ≤ kd i) : tO kd r q L n 0 0 i = q i := by
  unfold tO
  rw [if_neg (by omega)]
  split <;> rfl
theorem tL_start : tL L 0 0 = L := by
  funext i
  unfold tL
  rw [if_neg (by omega)]
  split <;> omega
theorem tO_bd {M : Int} (h : ∀ i, i < n → 0 ≤ q i ∧ q i ≤ M) (hL : ∀ k, 0 ≤ L k ∧ L k ≤ n) (ht : t ≤ n) : ∀ i, i < n → 0 ≤ tO kd r q L n K t i ∧ tO kd r q L n K t i ≤ M + n := by
  intro i hi
  have h0 := h i hi
  unfold tO
  split
  · have a := gO_bd (r := mask kd (kd i) r) h (L (kd i).toNat).toNat i hi
    have b := hL (kd i).toNat
    omega
  · split
    · have a := gO_bd (r := mask kd K r) h t i hi
      omega
    · omega
end
section
variable {f1 f2 f3 : Nat → Int} {n : Nat} {r : Int}
theorem cnt_le (k : Int) : ∀ n, 0 ≤ cnt f2 k n ∧ cnt f2 k n ≤ n := by
  intro n
  induction n with
  | zero => exact ⟨Int.le_refl _, Int.le_refl _⟩
  | succ n ih =>
    have e : cnt f2 k (n + 1) = cnt f2 k n + (if f2 n = k then 1 else 0) := rfl
    rw [e]
    split <;> omega
theorem sd_some {K t : Nat} (h : (t : Int) < sdL f1 f2 f3 n r K) : ∃ i, i < n ∧ 0 ≤ gR (mask f2 K (sdR f1 f2 f3)) n t i := by
  have a := (sdL_bd (f1 := f1) (f2 := f2) (f3 := f3) (n := n) (r := r) K).2
  have b := cpos_gR (mask f2 K (sdR f1 f2 f3)) n t
  rw [cpos_mask (fun i => (sdR_bd i).1)] at b
  exact cpos_some _ n (by omega)
theorem tO_end {m : Nat} (hk : ∀ i, i < n → 0 ≤ f2 i ∧ f2 i < m) {i : Nat} (hi : i < n) : tO f2 (sdR f1 f2 f3) (sdQ f1 f2 f3) (sdL f1 f2 f3 n r) n m 0 i = sdO f1 f2 f3 n r i := by
  have := hk i hi
  unfold tO sdO
  rw [if_pos (by omega)]
end
end Go.Proofs.Ytnikfcaloielaaa
