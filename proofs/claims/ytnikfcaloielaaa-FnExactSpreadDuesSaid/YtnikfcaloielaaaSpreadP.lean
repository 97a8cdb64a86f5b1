/-
  What is left over in each kind goes to the greatest rests of that kind, the first of alike ones. No program in sight. No condition.
-/
import Derived.Test.YtnikfcaloielaaaPartP
namespace Go.Proofs.Ytnikfcaloielaaa
open Go.RowKit
set_option linter.unusedVariables false

/-- The rests of one kind; -1 for the others. -/
def mask (kd : Nat → Int) (k : Int) (r : Nat → Int) (i : Nat) : Int := if kd i = k then r i else -1
/-- How many of the first j places of a rearrangement are of a kind. -/
def cj (kd : Nat → Int) (o : Nat → Int) (k : Int) : Nat → Nat
  | 0 => 0
  | j + 1 => cj kd o k j + (if kd (o j).toNat = k then 1 else 0)
section
variable {kd r q : Nat → Int} {o : Nat → Int} {n : Nat}
theorem cj_mono (k : Int) : ∀ {a b : Nat}, a ≤ b → cj kd o k a ≤ cj kd o k b := by
  intro a b h
  induction b with
  | zero => obtain rfl : a = 0 := by omega
            exact Nat.le_refl _
  | succ b ih =>
    rcases Nat.lt_or_ge b a with h1 | h1
    · obtain rfl : a = b + 1 := by omega
      exact Nat.le_refl _
    · have := ih h1
      simp only [cj]
      omega
theorem mask_pick (hr : ∀ i, i < n → 0 ≤ r i) (ho : Ord o n) (hs : Srt (pkey r) o 0 n) (k : Int) : ∀ j, j ≤ n → ∀ i, i < n → gR (mask kd k r) n (cj kd o k j) i = if (kd i = k ∧ ∃ p, p < j ∧ o p = i) then -1 else mask kd k r i := by
  intro j
  induction j with
  | zero =>
    intro _ i hi
    rw [if_neg (by rintro ⟨_, p, hp, _⟩; omega)]
    rfl
  | succ j ih =>
    intro hj i hi
    have ih := ih (by omega)
    have x := ho.rng j (by omega)
    by_cases hk : kd (o j).toNat = k
    · have hb : gB (gR (mask kd k r) n (cj kd o k j)) n = (o j).toNat := by
        refine best_gB ⟨by omega, fun i hi hne => ?_⟩
        have np : ¬ (kd (o j).toNat = k ∧ ∃ p, p < j ∧ o p = ((o j).toNat : Int)) := by
          rintro ⟨_, p, hp, e⟩
          have := ho.inj p j (by omega) (by omega) (by omega)
          omega
        rw [ih _ (show (o j).toNat < n by omega), if_neg np, ih i hi]
        have r0 := hr (o j).toNat (by omega)
        have m0 : mask kd k r (o j).toNat = r (o j).toNat := if_pos hk
        rw [m0]
        split
        · exact .inl (by omega)
        · rename_i hn
          unfold mask
          split
          · rename_i hki
            obtain ⟨p, hp, e⟩ := ho.sur i hi
            have hpj : j < p := by
              rcases Nat.lt_trichotomy p j with c | c | c
              · exact absurd ⟨hki, p, c, e⟩ hn
              · subst c; omega
              · exact c
            have kk := hs j p (Nat.zero_le _) hpj hp
            unfold Ahead pkey at kk
            rw [e] at kk
            have e3 : ((i : Nat) : Int).toNat = i := by omega
            rw [e3] at kk
            omega
          · exact .inl (by omega)
      have ec : cj kd o k (j + 1) = cj kd o k j + 1 := by simp only [cj]; rw [if_pos hk]
      rw [ec]
      simp only [gR]
      rw [hb]
      by_cases c : i = (o j).toNat
      · rw [c, upd_at, if_pos ⟨hk, j, by omega, by omega⟩]
      · rw [upd_ne _ _ c, ih i hi]
        by_cases c2 : kd i = k ∧ ∃ p, p < j ∧ o p = i
        · obtain ⟨c3, p, h1, h2⟩ := c2
          rw [if_pos ⟨c3, p, h1, h2⟩, if_pos ⟨c3, p, by omega, h2⟩]
        · rw [if_neg c2, if_neg (by
            rintro ⟨c3, p, h1, h2⟩
            by_cases e : p = j
            · subst e; omega
            · exact c2 ⟨c3, p, by omega, h2⟩)]
    · have ec : cj kd o k (j + 1) = cj kd o k j := by simp only [cj]; rw [if_neg hk]; rfl
      rw [ec, ih i hi]
      by_cases c2 : kd i = k ∧ ∃ p, p < j ∧ o p = i
      · obtain ⟨c3, p, h1, h2⟩ := c2
        rw [if_pos ⟨c3, p, h1, h2⟩, if_pos ⟨c3, p, by omega, h2⟩]
      · rw [if_neg c2, if_neg (by
          rintro ⟨c3, p, h1, h2⟩
          by_cases e : p = j
          · subst e
            have : (o p).toNat = i := by omega
            rw [this] at hk
            exact hk c3
          · exact c2 ⟨c3, p, by omega, h2⟩)]
/-- The place that a kind picks next is the next of that kind in the order. -/
theorem mask_at (hr : ∀ i, i < n → 0 ≤ r i) (ho : Ord o n) (hs : Srt (pkey r) o 0 n) {j : Nat} (hj : j < n) : (gB (gR (mask kd (kd (o j).toNat) r) n (cj kd o (kd (o j).toNat) j)) n : Int) = o j := by
  have x := ho.rng j hj
  have h1 := mask_pick hr ho hs (kd := kd) (kd (o j).toNat) j (by omega)
  have : gB (gR (mask kd (kd (o j).toNat) r) n (cj kd o (kd (o j).toNat) j)) n = (o j).toNat := by
    refine best_gB ⟨by omega, fun i hi hne => ?_⟩
    have np : ¬ (kd (o j).toNat = kd (o j).toNat ∧ ∃ p, p < j ∧ o p = ((o j).toNat : Int)) := by
      rintro ⟨_, p, hp, e⟩
      have := ho.inj p j (by omega) (by omega) (by omega)
      omega
    rw [h1 _ (show (o j).toNat < n by omega), if_neg np, h1 i hi]
    have r0 := hr (o j).toNat (by omega)
    have m0 : mask kd (kd (o j).toNat) r (o j).toNat = r (o j).toNat := if_pos rfl
    rw [m0]
    split
    · exact .inl (by omega)
    · rename_i hn
      unfold mask
      split
      · rename_i hki
        obtain ⟨p, hp, e⟩ := ho.sur i hi
        have hpj : j < p := by
          rcases Nat.lt_trichotomy p j with c | c | c
          · exact absurd ⟨hki, p, c, e⟩ hn
          · subst c; omega
          · exact c
        have kk := hs j p (Nat.zero_le _) hpj hp
        unfold Ahead pkey at kk
        rw [e] at kk
        have e3 : ((i : Nat) : Int).toNat = i := by omega
        rw [e3] at kk
        omega
      · exact .inl (by omega)
  omega
/-- What each line has, and what each kind has left, behind so many places of the order. -/
def spO (kd r q L : Nat → Int) (o : Nat → Int) (n j : Nat) (i : Nat) : Int := gO q (mask kd (kd i) r) n (min (cj kd o (kd i) j) (L (kd i).toNat).toNat) i
def spL (kd L : Nat → Int) (o : Nat → Int) (j : Nat) (k : Nat) : Int := L k - min (cj kd o k j : Int) (L k)
theorem spL_zero {L : Nat → Int} (h : ∀ k, 0 ≤ L k) : spL kd L o 0 = L := by
  funext k
  have := h k
  simp only [spL, cj]
  omega
theorem spO_zero {L : Nat → Int} : spO kd r q L o n 0 = q := by
  funext i
  simp only [spO, cj, Nat.zero_min]
  rfl
/-- A line whose kind has something left. -/
theorem sp_yes {L : Nat → Int} (hr : ∀ i, i < n → 0 ≤ r i) (ho : Ord o n) (hs : Srt (pkey r) o 0 n) (hL : ∀ k, 0 ≤ L k) (hk : ∀ i, i < n → 0 ≤ kd i) {j : Nat} (hj : j < n) (hp : 0 < spL kd L o j (kd (o j).toNat).toNat) :
    (∀ i, i < n → spO kd r q L o n (j + 1) i = upd (spO kd r q L o n j) (o j).toNat (spO kd r q L o n j (o j).toNat + 1) i) ∧ spL kd L o (j + 1) = upd (spL kd L o j) (kd (o j).toNat).toNat (spL kd L o j (kd (o j).toNat).toNat - 1) := by
  have x := ho.rng j hj
  have hkj := hk (o j).toNat (by omega)
  obtain ⟨K, hK⟩ : ∃ K, kd (o j).toNat = K := ⟨_, rfl⟩
  have hat := mask_at (kd := kd) hr ho hs hj
  rw [hK] at hat hkj hp ⊢
  have eK : ((K.toNat : Nat) : Int) = K := by omega
  have hLK := hL K.toNat
  have hcl : (cj kd o K j : Int) < L K.toNat := by
    unfold spL at hp
    rw [eK] at hp
    omega
  have ec : cj kd o K (j + 1) = cj kd o K j + 1 := by simp only [cj]; rw [if_pos hK]
  have ecn : ∀ K', K' ≠ K → cj kd o K' (j + 1) = cj kd o K' j := fun K' h => by
    simp only [cj]
    rw [if_neg (by rw [hK]; exact fun e => h e.symm)]
    rfl
  constructor
  · intro i hi
    unfold spO
    by_cases hki : kd i = K
    · rw [hki, ec, show min (cj kd o K j + 1) (L K.toNat).toNat = cj kd o K j + 1 by omega]
      simp only [gO]
      have eb : gB (gR (mask kd K r) n (cj kd o K j)) n = (o j).toNat := by omega
      rw [eb]
      by_cases c : i = (o j).toNat
      · subst c
        rw [upd_at, upd_at]
        rw [hK, show min (cj kd o K j) (L K.toNat).toNat = cj kd o K j by omega]
      · rw [upd_ne _ _ c, upd_ne _ _ c]
        rw [hki, show min (cj kd o K j) (L K.toNat).toNat = cj kd o K j by omega]
    · have c : i ≠ (o j).toNat := by intro c; rw [c] at hki; exact hki hK
      rw [upd_ne _ _ c, ecn _ hki]
  · funext k
    by_cases c : k = K.toNat
    · subst c
      rw [upd_at]
      unfold spL
      rw [eK, ec]
      omega
    · rw [upd_ne _ _ c]
      unfold spL
      rw [ecn _ (by omega)]
/-- A line whose kind has nothing left. -/
theorem sp_no {L : Nat → Int} (ho : Ord o n) (hL : ∀ k, 0 ≤ L k) (hk : ∀ i, i < n → 0 ≤ kd i) {j : Nat} (hj : j < n) (hp : ¬ 0 < spL kd L o j (kd (o j).toNat).toNat) :
    spO kd r q L o n (j + 1) = spO kd r q L o n j ∧ spL kd L o (j + 1) = spL kd L o j := by
  have x := ho.rng j hj
  have hkj := hk (o j).toNat (by omega)
  obtain ⟨K, hK⟩ : ∃ K, kd (o j).toNat = K := ⟨_, rfl⟩
  rw [hK] at hkj hp
  have eK : ((K.toNat : Nat) : Int) = K := by omega
  have hLK := hL K.toNat
  have hcl : L K.toNat ≤ (cj kd o K j : Int) := by
    unfold spL at hp
    rw [eK] at hp
    omega
  have ec : cj kd o K (j + 1) = cj kd o K j + 1 := by simp only [cj]; rw [if_pos hK]
  have ecn : ∀ K', K' ≠ K → cj kd o K' (j + 1) = cj kd o K' j := fun K' h => by
    simp only [cj]
    rw [if_neg (by rw [hK]; exact fun e => h e.symm)]
    rfl
  constructor
  · funext i
    unfold spO
    by_cases hki : kd i = K
    · rw [hki, ec, show min (cj kd o K j + 1) (L K.toNat).toNat = min (cj kd o K j) (L K.toNat).toNat by omega]
    · rw [ecn _ hki]
  · funext k
    unfold spL
    by_cases c : k = K.toNat
    · subst c
      rw [eK, ec]
      omega
    · rw [ecn _ (by omega)]
end
end Go.Proofs.Ytnikfcaloielaaa
