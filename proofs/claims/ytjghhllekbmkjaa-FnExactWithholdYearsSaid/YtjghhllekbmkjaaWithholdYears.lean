/-
  impl.WithholdYears and spec.WithholdYears answer alike: every scale and every list of fewer than 1000000000 integers each, every way of rounding. No other condition.
-/
import Derived.Test.YtjghhllekbmkjaaScaleO
import Derived.Test.YtjghhllekbmkjaaScaleW
import Derived.Test.YtjghhllekbmkjaaScaleD
import Derived.Test.YtjghhllekbmkjaaPays
import Derived.Test.YtjghhllekbmkjaaTab
import Derived.Test.YtjghhllekbmkjaaTotal
import Derived.Deep.RegionHeld3
namespace Go.Proofs.Ytjghhllekbmkjaa
open Go.RowKit
set_option linter.unusedVariables false

def wyrP (f : Nat → Int) (n k : Nat) : Int := f k * n
def wyrAt (fb fr : Nat → Int) (nb : Nat) (f : Nat → Int) (n : Nat) (r : Int) (k : Nat) : Int := dueF fb fr nb (wyrP f n k) r / n
def wyrOk (fb : Nat → Int) (nb : Nat) (fr : Nat → Int) (nr : Nat) (f : Nat → Int) (n : Nat) (r : Int) : Bool := askOk fb nb fr nr 0 r && paysOk f n && allW (wyrP f n) 0 1000000000000 n
def wyrL (fb : Nat → Int) (nb : Nat) (fr : Nat → Int) (nr : Nat) (f : Nat → Int) (n : Nat) (r : Int) : List Int := bif wyrOk fb nb fr nr f n r then tab (wyrAt fb fr nb f n r) n else []
def wyrV (fb : Nat → Int) (nb : Nat) (fr : Nat → Int) (nr : Nat) (f : Nat → Int) (n : Nat) (r : Int) : Int := bif wyrOk fb nb fr nr f n r then dueF fb fr nb (sumTo f n) r - sumTo (wyrAt fb fr nb f n r) n else 0
section
variable {fb fr f : Nat → Int} {nb nr n : Nat} {r : Int}
theorem wyr_no (h : wyrOk fb nb fr nr f n r = false) : wyrL fb nb fr nr f n r = [] ∧ wyrV fb nb fr nr f n r = 0 := by simp only [wyrL, wyrV, h, cond_false, and_self]
theorem wyr_yes (h : wyrOk fb nb fr nr f n r = true) : wyrL fb nb fr nr f n r = tab (wyrAt fb fr nb f n r) n ∧ wyrV fb nb fr nr f n r = dueF fb fr nb (sumTo f n) r - sumTo (wyrAt fb fr nb f n r) n := by simp only [wyrL, wyrV, h, cond_true, and_self]
theorem wyr_n1 (h : askOk fb nb fr nr 0 r = false) : wyrOk fb nb fr nr f n r = false := by simp only [wyrOk, h, Bool.false_and]
theorem wyr_n2 (h : paysOk f n = false) : wyrOk fb nb fr nr f n r = false := by simp only [wyrOk, h, Bool.false_and, Bool.and_false]
theorem wyr_n3 (k : Nat) (hk : k < n) (h : isAmount (wyrP f n k) = false) : wyrOk fb nb fr nr f n r = false := by simp only [wyrOk, allW_false k hk h, Bool.and_false]
theorem wyr_y (h1 : askOk fb nb fr nr 0 r = true) (h2 : paysOk f n = true) (h3 : allW (wyrP f n) 0 1000000000000 n = true) : wyrOk fb nb fr nr f n r = true := by simp only [wyrOk, h1, h2, h3, Bool.and_true]
theorem wyrP_bd (h2 : paysOk f n = true) {k : Nat} (hk : k < n) : 0 ≤ f k * (n : Int) ∧ f k * (n : Int) ≤ 60000000000000 := by
  obtain ⟨n1, n60, hf, _⟩ := pays_is h2
  have := hf k hk
  refine ⟨Int.mul_nonneg this.1 (by omega), ?_⟩
  have : f k * (n : Int) ≤ 1000000000000 * 60 := Int.mul_le_mul this.2 (by omega) (by omega) (by omega)
  omega
theorem wyrAt_bd (hs : ScaleIs fb nb fr nr) (n1 : 1 ≤ n) {k : Nat} (h0 : 0 ≤ wyrP f n k) (h1 : wyrP f n k ≤ 1000000000000) : 0 ≤ wyrAt fb fr nb f n r k ∧ wyrAt fb fr nb f n r k ≤ 9000000000000 := by
  have d := dueF_bd hs h0 r
  unfold wyrAt
  refine ⟨Int.ediv_nonneg d.1 (by omega), ?_⟩
  have : dueF fb fr nb (wyrP f n k) r / (n : Int) ≤ dueF fb fr nb (wyrP f n k) r := Int.ediv_le_self _ d.1
  omega
theorem wyr_sum (hs : ScaleIs fb nb fr nr) (h2 : paysOk f n = true) {m : Nat} (hm : m ≤ n) (h3 : allW (wyrP f n) 0 1000000000000 m = true) : 0 ≤ sumTo (wyrAt fb fr nb f n r) m ∧ sumTo (wyrAt fb fr nb f n r) m ≤ 600000000000000 := by
  obtain ⟨n1, n60, _, _⟩ := pays_is h2
  have hb : ∀ i, i < m → 0 ≤ wyrAt fb fr nb f n r i ∧ wyrAt fb fr nb f n r i ≤ 9000000000000 := fun i hi => by
    have := allW_iff.1 h3 i hi
    exact wyrAt_bd hs n1 this.1 this.2
  have x := (sumTo_bd hb (Int.le_refl _) (by omega) m (Nat.le_refl _)).2
  have y := sumTo_nonneg (fun i hi => (hb i hi).1) m (Nat.le_refl _)
  exact ⟨y, by omega⟩
theorem sumTo_congr {f g : Nat → Int} : ∀ n, (∀ i, i < n → f i = g i) → sumTo f n = sumTo g n := by
  intro n
  induction n with
  | zero => intro _; rfl
  | succ n ih => intro h; simp only [sumTo]; rw [ih (fun i hi => h i (by omega)), h n (by omega)]
end
def WithholdYears_r0 (xb xr xs : List Int) (r : Int) : List Int := wyrL (fun i => xb.getD i 0) xb.length (fun i => xr.getD i 0) xr.length (fun i => xs.getD i 0) xs.length r
def WithholdYears_r1 (xb xr xs : List Int) (r : Int) : Int := wyrV (fun i => xb.getD i 0) xb.length (fun i => xr.getD i 0) xr.length (fun i => xs.getD i 0) xs.length r
def WithholdYears_r2 (xb xr xs : List Int) (r : Int) : Bool := wyrOk (fun i => xb.getD i 0) xb.length (fun i => xr.getD i 0) xr.length (fun i => xs.getD i 0) xs.length r
theorem belowNext {B : Nat} {w0 w1 w2 : World} (h : Below B w0 w1) (h0 : B ≤ w0.heap.size) (h' : Below w1.heap.size w1 w2) : Below B w0 w2 := h.trans (h'.mono (Nat.le_trans h0 h.size))

set_option maxHeartbeats 3200000 in
set_option maxRecDepth 100000 in
theorem wyr_impl (gb cb gr cr nb nr : Nat) (fb fr : Nat → Int) (n g c : Nat) (f : Nat → Int) (r : Int) (w : World) (mb : nb < 1000000000) (mr : nr < 1000000000) (Ib : Ints w gb 0 nb fb) (Ir : Ints w gr 0 nr fr) (mn : n < 1000000000) (I : Ints w g 0 n f) :
    Calls Try.prog 42 #[.agg #[.slice (some ⟨gb, 0, none⟩) nb cb, .slice (some ⟨gr, 0, none⟩) nr cr], .slice (some ⟨g, 0, none⟩) n c, .int .i64 r] w (RetL1i 2 w (wyrL fb nb fr nr f n r) (wyrV fb nb fr nr f n r) (wyrOk fb nb fr nr f n r)) := by
  have bA : Below w.heap.size w (w.alloc (.cells #[.slice (some ⟨gb, 0, none⟩) nb cb, .slice (some ⟨gr, 0, none⟩) nr cr] 28)) := by go_grown
  have HK0 : Hid ((w.alloc (.cells #[.slice (some ⟨gb, 0, none⟩) nb cb, .slice (some ⟨gr, 0, none⟩) nr cr] 28)).cell? ⟨w.heap.size, 0, none⟩ = some (.slice (some ⟨gb, 0, none⟩) nb cb)) := by show (w.alloc (.cells #[.slice (some ⟨gb, 0, none⟩) nb cb, .slice (some ⟨gr, 0, none⟩) nr cr] 28)).cell? _ = _; simp [go_sem]
  have HK1 : Hid ((w.alloc (.cells #[.slice (some ⟨gb, 0, none⟩) nb cb, .slice (some ⟨gr, 0, none⟩) nr cr] 28)).cell? ⟨w.heap.size, 1, none⟩ = some (.slice (some ⟨gr, 0, none⟩) nr cr)) := by show (w.alloc (.cells #[.slice (some ⟨gb, 0, none⟩) nb cb, .slice (some ⟨gr, 0, none⟩) nr cr] 28)).cell? _ = _; simp [go_sem]
  cases h1 : askOk fb nb fr nr 0 r
  · rw [(wyr_no (wyr_n1 h1)).1, (wyr_no (wyr_n1 h1)).2, wyr_n1 h1]
    go_enter Try.func42, Try.ntmps42
    go_wp2_with (first | (go_at_call 53; refine (isAsked_any gb cb gr cr nb nr fb fr _ _ _ mb mr (Ib.below bA) (Ir.below bA)).mono ?_; rintro e w1 ⟨rfl, hb⟩; have k0 := Below.cellOf hb rfl HK0.out; have k1 := Below.cellOf hb rfl HK1.out; have C1 := bnext bA hb))
    go_ret3
    exact RetL1i.no _ C1
  cases h2 : paysOk f n
  · rw [(wyr_no (wyr_n2 h2)).1, (wyr_no (wyr_n2 h2)).2, wyr_n2 h2]
    go_enter Try.func42, Try.ntmps42
    go_wp2_with (first | (go_at_call 53; refine (isAsked_any gb cb gr cr nb nr fb fr _ _ _ mb mr (Ib.below bA) (Ir.below bA)).mono ?_; rintro e w1 ⟨rfl, hb⟩; have k0 := Below.cellOf hb rfl HK0.out; have k1 := Below.cellOf hb rfl HK1.out; have C1 := bnext bA hb) | (go_at_call 80; refine (pays_impl n g c f _ mn (I.below C1)).mono ?_; rintro e w2 ⟨rfl, hb2⟩; have C2 := bnext C1 hb2))
    go_ret3
    exact RetL1i.no _ C2
  have hs := (ask_is h1).1
  obtain ⟨n1, n60, hf, hsum⟩ := pays_is h2
  have HS := Lib.hid hs
  have HSM := Lib.hid hsum
  have HP : Hid (∀ k, k < n → 0 ≤ f k * (n : Int) ∧ f k * (n : Int) ≤ 60000000000000) := fun k hk => wyrP_bd h2 hk
  have HY : Hid (∀ m, m ≤ n → allW (wyrP f n) 0 1000000000000 m = true → 0 ≤ sumTo (wyrAt fb fr nb f n r) m ∧ sumTo (wyrAt fb fr nb f n r) m ≤ 600000000000000) := fun m hm h3 => wyr_sum hs h2 hm h3
  have HN : Hid (∀ k, k < n → isAmount (wyrP f n k) = false → wyrOk fb nb fr nr f n r = false) := fun k hk h => wyr_n3 k hk h
  have HO : Hid (allW (wyrP f n) 0 1000000000000 n = true → wyrOk fb nb fr nr f n r = true) := wyr_y h1 h2
  have HL : Hid (∀ x, wyrOk fb nb fr nr f n r = x → wyrL fb nb fr nr f n r = (bif x then tab (wyrAt fb fr nb f n r) n else []) ∧ wyrV fb nb fr nr f n r = (bif x then dueF fb fr nb (sumTo f n) r - sumTo (wyrAt fb fr nb f n r) n else 0)) := fun x hx => by rw [← hx]; exact ⟨rfl, rfl⟩
  have glt := World.block_lt_of_cell? w _ (I.at0 0 (by omega))
  have blt := World.block_lt_of_cell? w _ (Ib.at0 0 hs.n1)
  have rlt := World.block_lt_of_cell? w _ (Ir.at0 0 (by rw [hs.nr]; exact hs.n1))
  have HD : Hid (∀ w' : World, Ints w' gb 0 nb fb → Ints w' gr 0 nr fr → ∀ x : Int, (0 ≤ x ∧ x ≤ 1000000000000) → Calls Try.prog 60 #[.agg #[.slice (some ⟨gb, 0, none⟩) nb cb, .slice (some ⟨gr, 0, none⟩) nr cr], .int .i64 x, .int .i64 r] w' (RetV w' (.int .i64 (dueF fb fr nb x r)))) := fun w' i1 i2 x hx => due_impl gb cb gr cr nb nr fb fr x r w' mb mr i1 i2 hs hx.1 hx.2
  have HB : Hid (∀ x : Int, 0 ≤ x → x ≤ 1000000000000 → 0 ≤ dueF fb fr nb x r ∧ dueF fb fr nb x r ≤ 9000000000000) := fun x h0 h1 => by have := dueF_bd hs h0 r; omega
  have HTP : Hid (∀ w' : World, Ints w' g 0 n f → Calls Try.prog 81 #[.slice (some ⟨g, 0, none⟩) n c] w' fun e w'' => e = .returned (.int .i64 (sumTo f n)) ∧ w' = w'') := fun w' i => total_any n g 0 c f w' mn i (fun k hk => by have := hsum k hk; omega)
  clear hs hsum hf
  generalize hok : wyrOk fb nb fr nr f n r = ok at *
  generalize hl : wyrL fb nb fr nr f n r = L at *
  generalize hv : wyrV fb nb fr nr f n r = V at *
  clear hok hl hv
  go_enter Try.func42, Try.ntmps42
  go_wp2_with (first | (go_at_call 53; refine (isAsked_any gb cb gr cr nb nr fb fr _ _ _ mb mr (Ib.below bA) (Ir.below bA)).mono ?_; rintro e w1 ⟨rfl, hb⟩; have k0 := Below.cellOf hb rfl HK0.out; have k1 := Below.cellOf hb rfl HK1.out; have C1 := bnext bA hb) | (go_at_call 80; refine (pays_impl n g c f _ mn (I.below C1)).mono ?_; rintro e w2 ⟨rfl, hb2⟩; have C2 := bnext C1 hb2; have k2 := Below.cellOf hb2 rfl k0; have k3 := Below.cellOf hb2 rfl k1))
  have D1 := Ib.below C2
  have D2 := Ir.below C2
  have D3 := I.below C2
  have wlt : w.heap.size < w2.heap.size := World.block_lt_of_cell? _ _ k2
  have glt' : g < w2.heap.size := by have := C2.size; omega
  have blt' : gb < w2.heap.size := by have := C2.size; omega
  have rlt' : gr < w2.heap.size := by have := C2.size; omega
  have K0 := Lib.hid k2
  have K1 := Lib.hid k3
  clear k0 k1 k2 k3 h1 h2
  go_loopw [27, 9] (fun i v wr => ∃ k : Nat, k ≤ n ∧ i = .int .i64 k ∧ Own 2 wr w2.heap.size v (tab (wyrAt fb fr nb f n r) k) ∧ Below w2.heap.size w2 wr ∧ Hid (allW (wyrP f n) 0 1000000000000 k = true)) (fun i _ _ => n - (intOf i).toNat)
  case atStart => exact ⟨0, Nat.zero_le _, rfl, Own.made _ _ (Nat.le_refl _), (Below.refl _ _).alloc (Nat.le_refl _) _, rfl⟩
  case round =>
    obtain ⟨k, hk, rfl, hown, hbr, ha⟩ := hrel
    have k0 := cellAtB K0.out hbr wlt
    have k1 := cellAtB K1.out hbr wlt
    have Db0 := D1.belowAt hbr blt'
    have Dr0 := D2.belowAt hbr rlt'
    have Dp0 := D3.belowAt hbr glt'
    by_cases hlt : k < n
    · have d3 := Dp0.at0 k hlt
      have p0 := HP.out k hlt
      have hA : wyrAt fb fr nb f n r k = dueF fb fr nb (f k * (n : Int)) r / n := rfl
      have HA := Lib.hid hA
      have HT := Lib.hid (tab_length (wyrAt fb fr nb f n r) k)
      clear hA
      cases hx : isAmount (f k * (n : Int))
      · have HFx := Lib.hid (HN.out k hlt hx)
        have HV := Lib.hid (HL.out _ HFx.out)
        go_wp2_with (first | (go_at_call 54; refine (impl_isAmount_any _ _).mono ?_; rintro e w' ⟨rfl, rfl⟩))
        go_ret3
        rw [HV.out.1, HV.out.2, HFx.out]
        exact RetL1i.no _ (C2.trans (hbr.mono (Nat.le_of_lt wlt)))
      · have HAW := Lib.hid (allW_succ ha.out (show win (wyrP f n k) 0 1000000000000 = true from hx))
        have p1 := win_iff.1 hx
        have b1 := HB.out _ p1.1 p1.2
        have hsz := hbr.size
        have n1' : (1 : Int) ≤ n := by omega
        go_wp2_with (first | (go_at_call 54; refine (impl_isAmount_any _ _).mono ?_; rintro e w' ⟨rfl, rfl⟩) | (go_at_call 60; refine (HD.out _ Db0 Dr0 _ p1).mono ?_; rintro e w3 ⟨rfl, hb3⟩; have hown3 := hown.below hb3) | (at_builtin; refine wpList_app1 _ rfl _ _ 22 rfl (w2.heap.size) 2 Try.infoI Try.underlying22 _ _ rfl hown3 _ rfl (by have := HT.out; omega) (Nat.le_trans hsz hb3.size) ?_; intro v' w5 hown5 hb5))
        go_roundw
        case rel => exact ⟨k + 1, by omega, by go_num, by rw [tab, HA.out]; exact hown5, (belowNext hbr (Nat.le_refl _) hb3).trans hb5, HAW⟩
        case measure => simp [intOf]; omega
    · obtain rfl : k = n := by omega
      have HFx := Lib.hid (HO.out ha.out)
      have HV := Lib.hid (HL.out _ HFx.out)
      have y0 := HY.out k (Nat.le_refl _) ha.out
      have s0 := HSM.out k (Nat.le_refl _)
      have b1 := HB.out _ s0.1 s0.2
      obtain ⟨ad, cp, hv1, hv2⟩ := hown.shape
      rw [tab_length] at hv1
      obtain ⟨go, rfl, _⟩ := hv2 (fun e => by have := tab_length (wyrAt fb fr nb f k r) k; rw [e] at this; simp at this; omega)
      subst hv1
      have HTO : Hid (∀ w' : World, Own 2 w' w2.heap.size (.slice (some ⟨go, 0, none⟩) k cp) (tab (wyrAt fb fr nb f k r) k) → Calls Try.prog 81 #[.slice (some ⟨go, 0, none⟩) k cp] w' fun e w'' => e = .returned (.int .i64 (sumTo (wyrAt fb fr nb f k r) k)) ∧ w' = w'') := fun w' o => by
        refine total_any k go 0 cp (wyrAt fb fr nb f k r) w' mn (fun i hi => ?_) (fun j hj => ?_)
        · have hc := o.cellAt i (by rw [tab_length]; exact hi)
          rw [tab_get _ _ _ hi] at hc
          rw [Nat.zero_add]; exact hc
        · have := HY.out j hj (allW_iff.2 fun i hi => allW_iff.1 ha.out i (by omega))
          omega
      have hdr : Below wr.heap.size wr wr.drew := (Below.refl _ _).drew
      have Eb0 := Db0.below hdr
      have Er0 := Dr0.below hdr
      have Ep0 := Dp0.below hdr
      have hown0 := hown.below hdr
      have hb0 : Below w2.heap.size w2 wr.drew := hbr.drew
      have e2 : IntKind.i64.wrap (dueF fb fr nb (sumTo f k) r - sumTo (wyrAt fb fr nb f k r) k) = dueF fb fr nb (sumTo f k) r - sumTo (wyrAt fb fr nb f k r) k := IntWalk.i64_in _ (by omega)
      clear hdr
      go_wp2_with fail
      go_region_held3 (fun w' => w'.cell? ⟨w.heap.size, 0, none⟩ = some (.slice (some ⟨gb, 0, none⟩) nb cb) ∧ w'.cell? ⟨w.heap.size, 1, none⟩ = some (.slice (some ⟨gr, 0, none⟩) nr cr))
        (first | go_keep | (go_split_ands; refine ⟨?_, ?_⟩ <;> (apply Below.cellOf (by assumption) rfl; assumption)))
        ((first | (go_at_call 60; refine (HD.out _ Eb0 Er0 _ s0).mono ?_; rintro e w3 ⟨rfl, hb3⟩; have EpX := Ep0.below hb3; have hownX := hown0.below hb3; have hbX := belowNext hb0 (Nat.le_refl _) hb3) | (go_at_call 81; (first | (with_reducible refine (HTP.out _ EpX).mono ?_) | (with_reducible refine (HTP.out _ Ep0).mono ?_) | (with_reducible refine (HTO.out _ hownX).mono ?_) | (with_reducible refine (HTO.out _ hown0).mono ?_)); rintro e w4 ⟨rfl, rfl⟩)))
      clear e2
      go_wp2
      go_ret3
      rw [HV.out.1, HV.out.2, HFx.out]
      exact ⟨_, rfl, hownX.mono (Nat.le_of_lt wlt), by rw [cond_true, tab_length]; omega, C2.trans (hbX.mono (Nat.le_of_lt wlt))⟩

set_option maxHeartbeats 3200000 in
set_option maxRecDepth 100000 in
theorem wyr_spec (gb cb gr cr nb nr : Nat) (fb fr : Nat → Int) (n g c : Nat) (f : Nat → Int) (r : Int) (w : World) (mb : nb < 1000000000) (mr : nr < 1000000000) (Ib : Ints w gb 0 nb fb) (Ir : Ints w gr 0 nr fr) (mn : n < 1000000000) (I : Ints w g 0 n f) :
    Calls Try.prog 41 #[.agg #[.slice (some ⟨gb, 0, none⟩) nb cb, .slice (some ⟨gr, 0, none⟩) nr cr], .slice (some ⟨g, 0, none⟩) n c, .int .i64 r] w (RetL1i 2 w (wyrL fb nb fr nr f n r) (wyrV fb nb fr nr f n r) (wyrOk fb nb fr nr f n r)) := by
  have bA : Below w.heap.size w (w.alloc (.cells #[.slice (some ⟨gb, 0, none⟩) nb cb, .slice (some ⟨gr, 0, none⟩) nr cr] 28)) := by go_grown
  have HK0 : Hid ((w.alloc (.cells #[.slice (some ⟨gb, 0, none⟩) nb cb, .slice (some ⟨gr, 0, none⟩) nr cr] 28)).cell? ⟨w.heap.size, 0, none⟩ = some (.slice (some ⟨gb, 0, none⟩) nb cb)) := by show (w.alloc (.cells #[.slice (some ⟨gb, 0, none⟩) nb cb, .slice (some ⟨gr, 0, none⟩) nr cr] 28)).cell? _ = _; simp [go_sem]
  have HK1 : Hid ((w.alloc (.cells #[.slice (some ⟨gb, 0, none⟩) nb cb, .slice (some ⟨gr, 0, none⟩) nr cr] 28)).cell? ⟨w.heap.size, 1, none⟩ = some (.slice (some ⟨gr, 0, none⟩) nr cr)) := by show (w.alloc (.cells #[.slice (some ⟨gb, 0, none⟩) nb cb, .slice (some ⟨gr, 0, none⟩) nr cr] 28)).cell? _ = _; simp [go_sem]
  cases h1 : askOk fb nb fr nr 0 r
  · rw [(wyr_no (wyr_n1 h1)).1, (wyr_no (wyr_n1 h1)).2, wyr_n1 h1]
    go_enter Try.func41, Try.ntmps41
    go_wp2_with (first | (go_at_call 49; refine (can_any w.heap.size gb cb gr cr nb nr fb fr _ _ _ HK0.out HK1.out mb mr (Ib.below bA) (Ir.below bA)).mono ?_; rintro e w1 ⟨rfl, hb⟩; have k0 := Below.cellOf hb rfl HK0.out; have k1 := Below.cellOf hb rfl HK1.out; have C1 := bnext bA hb))
    go_ret3
    exact RetL1i.no _ C1
  cases h2 : paysOk f n
  · rw [(wyr_no (wyr_n2 h2)).1, (wyr_no (wyr_n2 h2)).2, wyr_n2 h2]
    go_enter Try.func41, Try.ntmps41
    go_wp2_with (first | (go_at_call 49; refine (can_any w.heap.size gb cb gr cr nb nr fb fr _ _ _ HK0.out HK1.out mb mr (Ib.below bA) (Ir.below bA)).mono ?_; rintro e w1 ⟨rfl, hb⟩; have k0 := Below.cellOf hb rfl HK0.out; have k1 := Below.cellOf hb rfl HK1.out; have C1 := bnext bA hb) | (go_at_call 79; refine (pays_spec n g c f _ mn (I.below C1)).mono ?_; rintro e w2 ⟨rfl, hb2⟩; have C2 := bnext C1 hb2))
    go_ret3
    exact RetL1i.no _ C2
  have hs := (ask_is h1).1
  obtain ⟨n1, n60, hf, hsum⟩ := pays_is h2
  have HS := Lib.hid hs
  have HSM := Lib.hid hsum
  have HP : Hid (∀ k, k < n → 0 ≤ f k * (n : Int) ∧ f k * (n : Int) ≤ 60000000000000) := fun k hk => wyrP_bd h2 hk
  have HY : Hid (∀ m, m ≤ n → allW (wyrP f n) 0 1000000000000 m = true → 0 ≤ sumTo (wyrAt fb fr nb f n r) m ∧ sumTo (wyrAt fb fr nb f n r) m ≤ 600000000000000) := fun m hm h3 => wyr_sum hs h2 hm h3
  have HN : Hid (∀ k, k < n → isAmount (wyrP f n k) = false → wyrOk fb nb fr nr f n r = false) := fun k hk h => wyr_n3 k hk h
  have HO : Hid (allW (wyrP f n) 0 1000000000000 n = true → wyrOk fb nb fr nr f n r = true) := wyr_y h1 h2
  have HL : Hid (∀ x, wyrOk fb nb fr nr f n r = x → wyrL fb nb fr nr f n r = (bif x then tab (wyrAt fb fr nb f n r) n else []) ∧ wyrV fb nb fr nr f n r = (bif x then dueF fb fr nb (sumTo f n) r - sumTo (wyrAt fb fr nb f n r) n else 0)) := fun x hx => by rw [← hx]; exact ⟨rfl, rfl⟩
  have glt := World.block_lt_of_cell? w _ (I.at0 0 (by omega))
  have blt := World.block_lt_of_cell? w _ (Ib.at0 0 hs.n1)
  have rlt := World.block_lt_of_cell? w _ (Ir.at0 0 (by rw [hs.nr]; exact hs.n1))
  have HB : Hid (∀ x : Int, 0 ≤ x → x ≤ 1000000000000 → 0 ≤ dueF fb fr nb x r ∧ dueF fb fr nb x r ≤ 9000000000000) := fun x h0 h1 => by have := dueF_bd hs h0 r; omega
  clear hs hsum hf
  generalize hok : wyrOk fb nb fr nr f n r = ok at *
  generalize hl : wyrL fb nb fr nr f n r = L at *
  generalize hv : wyrV fb nb fr nr f n r = V at *
  clear hok hl hv
  go_enter Try.func41, Try.ntmps41
  go_wp2_with (first | (go_at_call 49; refine (can_any w.heap.size gb cb gr cr nb nr fb fr _ _ _ HK0.out HK1.out mb mr (Ib.below bA) (Ir.below bA)).mono ?_; rintro e w1 ⟨rfl, hb⟩; have k0 := Below.cellOf hb rfl HK0.out; have k1 := Below.cellOf hb rfl HK1.out; have C1 := bnext bA hb) | (go_at_call 79; refine (pays_spec n g c f _ mn (I.below C1)).mono ?_; rintro e w2 ⟨rfl, hb2⟩; have C2 := bnext C1 hb2; have k2 := Below.cellOf hb2 rfl k0; have k3 := Below.cellOf hb2 rfl k1))
  have D1 := Ib.below C2
  have D2 := Ir.below C2
  have D3 := I.below C2
  have wlt : w.heap.size < w2.heap.size := World.block_lt_of_cell? _ _ k2
  have glt' : g < w2.heap.size := by have := C2.size; omega
  have blt' : gb < w2.heap.size := by have := C2.size; omega
  have rlt' : gr < w2.heap.size := by have := C2.size; omega
  have K0 := Lib.hid k2
  have K1 := Lib.hid k3
  clear k0 k1 k2 k3 h1 h2
  go_loopw [13, 10, 11, 12] (fun i v s d wr => ∃ k : Nat, k ≤ n ∧ i = .int .i64 k ∧ s = .int .i64 (sumTo f k) ∧ d = .int .i64 (sumTo (wyrAt fb fr nb f n r) k) ∧ Own 2 wr w2.heap.size v (tab (wyrAt fb fr nb f n r) k) ∧ Below w2.heap.size w2 wr ∧ Hid (allW (wyrP f n) 0 1000000000000 k = true)) (fun i _ _ _ _ => n - (intOf i).toNat)
  case atStart => exact ⟨0, Nat.zero_le _, rfl, rfl, rfl, Own.made _ _ (Nat.le_refl _), (Below.refl _ _).alloc (Nat.le_refl _) _, rfl⟩
  case round =>
    obtain ⟨k, hk, rfl, rfl, rfl, hown, hbr, ha⟩ := hrel
    have k0 := cellAtB K0.out hbr wlt
    have k1 := cellAtB K1.out hbr wlt
    have Db0 := D1.belowAt hbr blt'
    have Dr0 := D2.belowAt hbr rlt'
    have Dp0 := D3.belowAt hbr glt'
    have n1' : (1 : Int) ≤ n := by omega
    have s0 := HSM.out k hk
    have y0 := HY.out k hk ha.out
    by_cases hlt : k < n
    · have d3 := Dp0.at0 k hlt
      have p0 := HP.out k hlt
      have s1 := HSM.out (k + 1) (by omega)
      have hA : wyrAt fb fr nb f n r k = dueF fb fr nb (f k * (n : Int)) r / n := rfl
      have hE : sumTo f (k + 1) = sumTo f k + f k := rfl
      have hE2 : sumTo (wyrAt fb fr nb f n r) (k + 1) = sumTo (wyrAt fb fr nb f n r) k + dueF fb fr nb (f k * (n : Int)) r / n := rfl
      rw [hE] at s1
      have HT := Lib.hid (tab_length (wyrAt fb fr nb f n r) k)
      cases hx : isAmount (f k * (n : Int))
      · have HFx := Lib.hid (HN.out k hlt hx)
        have HV := Lib.hid (HL.out _ HFx.out)
        clear hA hE hE2
        go_wp2_with (first | (go_at_call 57; refine (spec_l02Cents_any _ _).mono ?_; rintro e w' ⟨rfl, rfl⟩))
        go_ret3
        rw [HV.out.1, HV.out.2, HFx.out]
        exact RetL1i.no _ (C2.trans (hbr.mono (Nat.le_of_lt wlt)))
      · have hAW := allW_succ ha.out (show win (wyrP f n k) 0 1000000000000 = true from hx)
        have HAW := Lib.hid hAW
        have y1 := HY.out (k + 1) (by omega) hAW
        rw [hE2] at y1
        have HA := Lib.hid hA
        have HE := Lib.hid hE
        have HE2 := Lib.hid hE2
        have p1 := win_iff.1 hx
        have b1 := HB.out _ p1.1 p1.2
        have b2 : 0 ≤ dueF fb fr nb (f k * (n : Int)) r / n := Int.ediv_nonneg b1.1 (by omega)
        have hsz := hbr.size
        clear hA hE hE2 hAW
        go_wp2_with (first | (go_at_call 57; refine (spec_l02Cents_any _ _).mono ?_; rintro e w' ⟨rfl, rfl⟩) | (go_at_call 58; refine (due_spec w.heap.size gb cb gr cr nb nr fb fr _ _ _ k0 k1 mb mr Db0 Dr0 HS.out p1.1 p1.2).mono ?_; rintro e w3 ⟨rfl, m, hw3⟩; have hb3 : Below wr.heap.size wr w3 := (by rw [hw3]; exact Below.drewN' (Below.refl _ _) m); clear hw3; have hown3 := hown.below hb3) | (at_builtin; refine wpList_app1 _ rfl _ _ 22 rfl (w2.heap.size) 2 Try.infoI Try.underlying22 _ _ rfl hown3 _ rfl (by have := HT.out; omega) (Nat.le_trans hsz hb3.size) ?_; intro v' w5 hown5 hb5; have d5 := ((Dp0.below hb3).belowAt hb5 glt').at0 k hlt))
        go_roundw
        case rel => exact ⟨k + 1, by omega, by go_num, by rw [HE.out], by rw [HE2.out], by rw [tab, HA.out]; exact hown5, (belowNext hbr (Nat.le_refl _) hb3).trans hb5, HAW⟩
        case measure => simp [intOf]; omega
    · obtain rfl : k = n := by omega
      have HFx := Lib.hid (HO.out ha.out)
      have HV := Lib.hid (HL.out _ HFx.out)
      have b1 := HB.out _ s0.1 s0.2
      go_wp2_with (first | (go_at_call 58; refine (due_spec w.heap.size gb cb gr cr nb nr fb fr _ _ _ k0 k1 mb mr Db0 Dr0 HS.out s0.1 s0.2).mono ?_; rintro e w3 ⟨rfl, m, rfl⟩))
      go_ret3
      rw [HV.out.1, HV.out.2, HFx.out]
      exact ⟨_, rfl, (hown.drewN m).mono (Nat.le_of_lt wlt), by rw [cond_true, tab_length]; omega, C2.trans ((Below.drewN' hbr m).mono (Nat.le_of_lt wlt))⟩

theorem WithholdYears_impl {w : World} {B B2 : Nat} {v u : Value} {xb xr xs : List Int} (h : RowS 2 w B v xb xr) (h2 : RowI 2 w B2 u xs) (r : Int) : Calls Try.prog 42 #[v, u, .int .i64 r] w (RetL1i 2 w (WithholdYears_r0 xb xr xs r) (WithholdYears_r1 xb xr xs r) (WithholdYears_r2 xb xr xs r)) := by
  obtain ⟨gb, cb, gr, cr, rfl, mb, mr, Ib, Ir, l1, l2⟩ := h.form2
  obtain ⟨g, c, rfl, _, _, _, _, I1, _, m1⟩ := h2.form
  exact wyr_impl gb cb gr cr _ _ _ _ _ g c _ r w mb mr Ib Ir m1 I1

theorem WithholdYears_spec {w : World} {B B2 : Nat} {v u : Value} {xb xr xs : List Int} (h : RowS 2 w B v xb xr) (h2 : RowI 2 w B2 u xs) (r : Int) : Calls Try.prog 41 #[v, u, .int .i64 r] w (RetL1i 2 w (WithholdYears_r0 xb xr xs r) (WithholdYears_r1 xb xr xs r) (WithholdYears_r2 xb xr xs r)) := by
  obtain ⟨gb, cb, gr, cr, rfl, mb, mr, Ib, Ir, l1, l2⟩ := h.form2
  obtain ⟨g, c, rfl, _, _, _, _, I1, _, m1⟩ := h2.form
  exact wyr_spec gb cb gr cr _ _ _ _ _ g c _ r w mb mr Ib Ir m1 I1
end Go.Proofs.Ytjghhllekbmkjaa
