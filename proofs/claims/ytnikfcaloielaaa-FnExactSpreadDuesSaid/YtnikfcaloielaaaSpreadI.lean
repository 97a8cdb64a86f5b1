/-
  impl.SpreadDues spreads what is left over as the plain law tells. Condition: fewer than 1000000000 integers in each list.
-/
import Derived.Test.YtnikfcaloielaaaSpreadC
import Derived.Test.YtnikfcaloielaaaShares
import Derived.Test.YtnikfcaloielaaaMoreApp
import Derived.Laws.EntriesVeiled
import Derived.Deep.QuietTactic
import Derived.BigQuiet
namespace Go.Proofs.Ytnikfcaloielaaa
open Go.RowKit
set_option linter.unusedVariables false

theorem sd_infoJ : (Try.prog.info? 3).map (fun i => (i.zero, i.size, i.bytes)) = some (some (.int .i64 0), 1, 8) := by kernel_rfl
def sdLs (f1 : Nat → Int) (n1 : Nat) (f2 : Nat → Int) (n2 : Nat) (f3 : Nat → Int) (n3 : Nat) (r : Int) : List Int := if linesOk f1 n1 f2 n2 f3 n3 r then tab (sdO f1 f2 f3 n1 r) n1 else []
theorem sdLs_no {f1 f2 f3 : Nat → Int} {n1 n2 n3 : Nat} {r : Int} (h : linesOk f1 n1 f2 n2 f3 n3 r = false) : sdLs f1 n1 f2 n2 f3 n3 r = [] := by simp [sdLs, h]
theorem sdLs_yes {f1 f2 f3 : Nat → Int} {n1 n2 n3 : Nat} {r : Int} (h : linesOk f1 n1 f2 n2 f3 n3 r = true) : sdLs f1 n1 f2 n2 f3 n3 r = tab (sdO f1 f2 f3 n1 r) n1 := by simp [sdLs, h]
def SpreadDues_r0 (xs ys zs : List Int) (r : Int) : List Int := sdLs (fun i => xs.getD i 0) xs.length (fun i => ys.getD i 0) ys.length (fun i => zs.getD i 0) zs.length r
def SpreadDues_r1 (xs ys zs : List Int) (r : Int) : Bool := linesOk (fun i => xs.getD i 0) xs.length (fun i => ys.getD i 0) ys.length (fun i => zs.getD i 0) zs.length r
/-- What each kind has left behind so many lines. -/
def sdLF (f1 f2 f3 : Nat → Int) (n : Nat) (r : Int) (k j : Nat) : Int := rateAt f1 f2 f3 n r j - ksum (sdQ f1 f2 f3) f2 k j
set_option maxHeartbeats 6400000 in
set_option maxRecDepth 100000 in
theorem spread_impl (n1 g1 c1 : Nat) (f1 : Nat → Int) (n2 g2 c2 : Nat) (f2 : Nat → Int) (n3 g3 c3 : Nat) (f3 : Nat → Int) (r : Int) (w : World) (m1 : n1 < 1000000000) (m2 : n2 < 1000000000) (m3 : n3 < 1000000000)
    (I1 : Ints w g1 0 n1 f1) (I2 : Ints w g2 0 n2 f2) (I3 : Ints w g3 0 n3 f3) :
    Calls Try.prog 16 #[.slice (some ⟨g1, 0, none⟩) n1 c1, .slice (some ⟨g2, 0, none⟩) n2 c2, .slice (some ⟨g3, 0, none⟩) n3 c3, .int .i64 r] w (RetL1 2 w (sdLs f1 n1 f2 n2 f3 n3 r) (linesOk f1 n1 f2 n2 f3 n3 r)) := by
  cases h : linesOk f1 n1 f2 n2 f3 n3 r
  · rw [sdLs_no h]
    have bA : Below w.heap.size w (((w.alloc (.cells #[.slice (some ⟨g1, 0, none⟩) n1 c1] 22)).alloc (.cells #[.slice (some ⟨g2, 0, none⟩) n2 c2] 22)).alloc (.cells #[.slice (some ⟨g3, 0, none⟩) n3 c3] 22)) := by go_grown
    have HC : Hid (∀ w', Ints w' g1 0 n1 f1 → Ints w' g2 0 n2 f2 → Ints w' g3 0 n3 f3 → Calls Try.prog 43 #[.slice (some ⟨g1, 0, none⟩) n1 c1, .slice (some ⟨g2, 0, none⟩) n2 c2, .slice (some ⟨g3, 0, none⟩) n3 c3, .int .i64 r] w' (RetV w' (.bool false))) := fun w' a b c => by have := areLines_any n1 g1 c1 f1 n2 g2 c2 f2 n3 g3 c3 f3 r w' m1 m2 m3 a b c; rwa [h] at this
    clear h
    go_enter Try.func16, Try.ntmps16
    go_wp2_with fail
    refine (HC.out _ (I1.below bA) (I2.below bA) (I3.below bA)).mono ?_
    rintro e w1 ⟨rfl, b1⟩
    go_wp2_with fail
    go_ret2
    exact RetL1.no _ (bnext bA b1)
  · rw [sdLs_yes h]
    obtain ⟨p1, p2, p3, rfl, q1, q2, q4, q5, q6⟩ := lines_is h
    obtain ⟨n, hn⟩ : ∃ n, n = n2 := ⟨_, rfl⟩
    rw [← hn] at h p1 p2 q1 q2 q6 m1 m2 I1 I2 ⊢
    clear hn
    have HC : Hid (∀ w', Ints w' g1 0 n f1 → Ints w' g2 0 n f2 → Ints w' g3 0 n3 f3 → Calls Try.prog 43 #[.slice (some ⟨g1, 0, none⟩) n c1, .slice (some ⟨g2, 0, none⟩) n c2, .slice (some ⟨g3, 0, none⟩) n3 c3, .int .i64 r] w' (RetV w' (.bool true))) := fun w' a b c => by have := areLines_any n g1 c1 f1 n g2 c2 f2 n3 g3 c3 f3 r w' m1 m2 m3 a b c; rwa [h] at this
    have HRD : Hid (∀ w', Ints w' g1 0 n f1 → Ints w' g2 0 n f2 → Ints w' g3 0 n3 f3 → _) := fun w' a b c => rates_row_impl n g1 c1 f1 g2 c2 f2 n3 g3 c3 f3 r w' m1 m3 a b c h
    have bA : Below w.heap.size w (((w.alloc (.cells #[.slice (some ⟨g1, 0, none⟩) n c1] 22)).alloc (.cells #[.slice (some ⟨g2, 0, none⟩) n c2] 22)).alloc (.cells #[.slice (some ⟨g3, 0, none⟩) n3 c3] 22)) := by go_grown
    have HL0 : Hid ((((w.alloc (.cells #[.slice (some ⟨g1, 0, none⟩) n c1] 22)).alloc (.cells #[.slice (some ⟨g2, 0, none⟩) n c2] 22)).alloc (.cells #[.slice (some ⟨g3, 0, none⟩) n3 c3] 22)).cell? ⟨w.heap.size, 0, none⟩ = some (.slice (some ⟨g1, 0, none⟩) n c1)) := by show World.cell? _ _ = _; simp [go_sem]
    have HK0 : Hid ((((w.alloc (.cells #[.slice (some ⟨g1, 0, none⟩) n c1] 22)).alloc (.cells #[.slice (some ⟨g2, 0, none⟩) n c2] 22)).alloc (.cells #[.slice (some ⟨g3, 0, none⟩) n3 c3] 22)).cell? ⟨w.heap.size + 1, 0, none⟩ = some (.slice (some ⟨g2, 0, none⟩) n c2)) := by show World.cell? _ _ = _; simp [go_sem]
    have HR0 : Hid ((((w.alloc (.cells #[.slice (some ⟨g1, 0, none⟩) n c1] 22)).alloc (.cells #[.slice (some ⟨g2, 0, none⟩) n c2] 22)).alloc (.cells #[.slice (some ⟨g3, 0, none⟩) n3 c3] 22)).cell? ⟨w.heap.size + 1 + 1, 0, none⟩ = some (.slice (some ⟨g3, 0, none⟩) n3 c3)) := by show World.cell? _ _ = _; simp [go_sem]
    have HI := Lib.hid p1
    have HJ := Lib.hid p2
    have HK := Lib.hid p3
    have hqb : ∀ i, i < n → 0 ≤ sdQ f1 f2 f3 i ∧ sdQ f1 f2 f3 i ≤ 1000000000001 := fun i hi => by
      have a := p1 i hi
      have b := p2 i hi
      have c := p3 (f2 i).toNat (by omega)
      have := due_bd (f1 i) (f3 (f2 i).toNat) 0 a.1 c.1 c.2
      unfold sdQ
      omega
    have HLB : Hid (∀ k, k ≤ n → ∀ j, j < n3 → -40000000000000 ≤ sdLF f1 f2 f3 n r k j ∧ sdLF f1 f2 f3 n r k j ≤ 40000000000000) := fun k hk j hj => by
      have a := ksum_bd2 (f2 := f2) (fun i hi => (p1 i hi).1) q6 n (Nat.le_refl _) j
      have c := p3 j hj
      have d := due_bd (ksum f1 f2 n j) (f3 j) r a.1 c.1 c.2
      have e := ksum_bd (f2 := f2) (fun i hi => (hqb i hi).1) j k hk
      have g := sumTo_bd hqb (by omega) (by omega) k hk
      unfold sdLF rateAt
      omega
    have HQB := Lib.hid hqb
    clear p1 p2 p3 q6 h hqb
    go_enter Try.func16, Try.ntmps16
    go_wp2_with fail
    refine (HC.out _ (I1.below bA) (I2.below bA) (I3.below bA)).mono ?_
    rintro e w1 ⟨rfl, b1⟩
    have C1 := bnext bA b1
    have kL := Below.cellOf b1 rfl HL0.out
    have kK := Below.cellOf b1 rfl HK0.out
    have kR := Below.cellOf b1 rfl HR0.out
    have J1 := I1.below C1
    have J2 := I2.below C1
    have J3 := I3.below C1
    have hw1 : w.heap.size + 1 + 1 < w1.heap.size := World.block_lt_of_cell? w1 _ kR
    have q2' : Below w1.heap.size w1 (w1.alloc (.cells #[] 2)) := by go_grown
    have kL1 := Below.cellOf q2' rfl kL
    have kK1 := Below.cellOf q2' rfl kK
    have kR1 := Below.cellOf q2' rfl kR
    go_wp2_with fail
    refine (HRD.out _ (J1.below q2') (J2.below q2') (J3.below q2')).mono ?_
    rintro e w3 ⟨vL, rfl, hL, b3⟩
    obtain ⟨gl, cl, rfl, l1, l2⟩ := hL.formTs (by omega)
    have z1 : (w1.alloc (.cells #[] 2)).heap.size = w1.heap.size + 1 := by simp
    rw [z1] at l1
    have hO := (Own.made 2 w1 (B := w1.heap.size) (Nat.le_refl _)).below b3
    have C3 := bnext q2' b3
    have HLL := Lib.hid (hL.mono (show w1.heap.size ≤ _ by rw [z1]; omega))
    have HT0 : Hid (tab (rateAt f1 f2 f3 n r) n3 = tab (sdLF f1 f2 f3 n r 0) n3) := tab_congr _ _ n3 (fun i _ => by show _ = _ - 0; omega)
    clear hL
    have q4' : Below w3.heap.size w3 (w3.alloc (.cells #[] 3)) := by go_grown
    have D4 := bnext C3 q4'
    have kL4 := Below.cellOf D4 rfl kL
    have kK4 := Below.cellOf D4 rfl kK
    have kR4 := Below.cellOf D4 rfl kR
    go_wp2_with fail
    go_loopw [34, 10, 12] (fun i vO vD wr => ∃ k : Nat, k ≤ n ∧ i = .int .i64 k ∧ Own 2 wr w1.heap.size vO (tab (sdQ f1 f2 f3) k) ∧ Own 3 wr w1.heap.size vD (tab ido k) ∧ Own 2 wr w1.heap.size (.slice (some ⟨gl, 0, none⟩) n3 cl) (tab (sdLF f1 f2 f3 n r k) n3) ∧ Hid (Apart vO vD) ∧ Hid (Apart vO (.slice (some ⟨gl, 0, none⟩) n3 cl)) ∧ Hid (Apart vD (.slice (some ⟨gl, 0, none⟩) n3 cl)) ∧ Below w1.heap.size w1 wr) (fun i _ _ _ => n - (intOf i).toNat)
    case atStart =>
      exact ⟨0, Nat.zero_le _, rfl, hO.below q4', Own.made 3 w3 (B := w1.heap.size) C3.size, by rw [← HT0.out]; exact HLL.out.below q4', Apart.two (by have := b3.size; omega), Apart.two (by omega), Apart.two (by omega), bnext C3 q4'⟩
    case round =>
      obtain ⟨k, hk, rfl, hvO, hvD, hvL, aOD, aOL, aDL, hbr⟩ := hrel
      have kL2 := Below.cellOf hbr rfl kL
      have kK2 := Below.cellOf hbr rfl kK
      have kR2 := Below.cellOf hbr rfl kR
      by_cases hlt : k < n
      · obtain ⟨a0, a1⟩ := HI.out k hlt
        obtain ⟨b0, b1'⟩ := HJ.out k hlt
        obtain ⟨j, hj⟩ : ∃ j : Nat, f2 k = j := ⟨(f2 k).toNat, by omega⟩
        have hj3 : j < n3 := by omega
        obtain ⟨d0, d1⟩ := HK.out j hj3
        have x1 := (J1.below hbr).at0 k hlt
        have x2 := (J2.below hbr).at0 k hlt
        have x3 := (J3.below hbr).at0 j hj3
        rw [hj] at x2
        have hqk := HQB.out k hlt
        have hlb := HLB.out k hk j hj3
        have HQE : Hid (sdQ f1 f2 f3 k = rnd (f1 k * f3 j) 10000 0) := by show rnd (f1 k * f3 (f2 k).toNat) 10000 0 = _; rw [hj]; rfl
        obtain ⟨X, hX⟩ : ∃ X, f1 k = X := ⟨_, rfl⟩
        obtain ⟨Y, hY⟩ : ∃ Y, f3 j = Y := ⟨_, rfl⟩
        obtain ⟨Qv, hQ⟩ : ∃ Q, sdQ f1 f2 f3 k = Q := ⟨_, rfl⟩
        rw [hX] at x1 a0 a1 HQE
        rw [hY] at x3 d0 d1 HQE
        rw [hQ] at HQE hqk
        have HDB : Hid (∀ q, Calls Try.prog 45 #[.int .i64 X, .int .i64 Y, .int .i64 0] (wr.drewN q) (fun e w'' => e = .returned (.int .i64 Qv) ∧ ∃ p, w'' = wr.drewN p)) := fun q => by
          refine (impl_dueBy X Y 0 _ a0 (by omega) d0 d1).mono ?_
          rintro e w'' ⟨he, p, hp⟩
          exact ⟨by rw [HQE.out]; exact he, q + p, by rw [hp]; simp⟩
        have HQ := Lib.hid hQ
        have l4 : (k : Int) < n := by omega
        have l5 : (j : Int) < n3 := by omega
        have HT1 := Lib.hid (tab_len8s (f := sdQ f1 f2 f3) (k := k) (by omega))
        have HT2 := Lib.hid (tab_len8s (f := ido) (k := k) (by omega))
        have HLF1 : Hid (sdLF f1 f2 f3 n r (k + 1) j = sdLF f1 f2 f3 n r k j - Qv) := by
          show _ = _
          unfold sdLF
          rw [ksum_at _ _ k j hj, hQ]
          omega
        have HLF2 : Hid (∀ i, i ≠ j → sdLF f1 f2 f3 n r k i = sdLF f1 f2 f3 n r (k + 1) i) := fun i hi => by
          unfold sdLF
          rw [ksum_off _ _ k j i hj hi]
        have KK := Lib.hid kK
        have JJ2 : Hid (∀ w', Below w1.heap.size w1 w' → w'.cell? ⟨g2, k, none⟩ = some (.int .i64 (j : Int)) ∧ w'.cell? ⟨w.heap.size + 1, 0, none⟩ = some (.slice (some ⟨g2, 0, none⟩) n c2)) := fun w' hb => ⟨by have := (J2.below hb).at0 k hlt; rwa [hj] at this, Below.cellOf hb rfl KK.out⟩
        clear hX hY hQ hj b0 b1'
        go_wp2_with fail
        go_quiet ((go_at_call 45; (with_reducible exact HDB.out _)))
        have hvO' := hvO.drewN nq
        have hvD' := hvD.drewN nq
        have hvL' := hvL.drewN nq
        have hb' : Below w1.heap.size w1 (wr.drewN nq) := Go.Proofs.Ytnikfcaloielaaa.Below.drewN' hbr nq
        clear hvO hvD hvL
        go_wp2_with (first | (at_builtin; refine wpList_app3 _ rfl _ _ 22 rfl w1.heap.size 2 Try.infoI Try.underlying22 _ _ rfl hvO' _ rfl (by have := HT1.out; omega) hb'.size ?_; intro v5 w5 hO5 b5 k5; have hD5 := k5.own hvD' aOD.out; have hL5 := k5.own hvL' aOL.out; have B5 := hb'.trans b5) | (at_builtin; refine wpList_app3 _ rfl _ _ 54 rfl w1.heap.size 3 sd_infoJ Try.underlying54 _ _ rfl hD5.1 _ rfl (by have := HT2.out; omega) B5.size ?_; intro v6 w6 hD6 b6 k6; have hO6 := k6.own hO5 hD5.2.symm; have hL6 := k6.own hL5.1 aDL.out; have B6 := B5.trans b6; have y1 := (JJ2.out _ B6).1; have y2 := (JJ2.out _ B6).2; have y3 := hL6.1.cellTab j hj3; have y4 := hL6.1.freeAt j))
        have hL7 := hL6.1.tabSet (sdLF f1 f2 f3 n r (k + 1)) j hj3 (sdLF f1 f2 f3 n r k j - Qv) HLF1.out (fun i _ hi => HLF2.out i hi)
        have hO7 := Own.keepV (E := 2) (B := w1.heap.size) (v := v5) hO6.1 ⟨gl, j, none⟩ (fun e => hL5.2 gl e rfl) (.int .i64 (sdLF f1 f2 f3 n r k j - Qv))
        have hD7 := Own.keepV (E := 3) (B := w1.heap.size) (v := v6) hD6 ⟨gl, j, none⟩ (fun e => hL6.2 gl e rfl) (.int .i64 (sdLF f1 f2 f3 n r k j - Qv))
        go_roundw
        case rel => exact ⟨k + 1, by omega, by go_num, by rw [tab, HQ.out]; exact hO7, by rw [tab]; exact hD7, hL7, hO6.2.symm, hL5.2, hL6.2, B6.setCell (show w1.heap.size ≤ gl by omega) _⟩
        case measure => simp [intOf]; omega
      · obtain rfl : k = n := by omega
        obtain ⟨gv, cv, rfl, v1, v2⟩ := hvO.formTs (by omega)
        obtain ⟨gd, cd, rfl, d1, d2⟩ := hvD.formTs (by omega)
        have hvd : gv ≠ gd := fun e => aOD.out gv rfl (by rw [e]; rfl)
        have hvl : gv ≠ gl := fun e => aOL.out gv rfl (by rw [e]; rfl)
        have hdl : gd ≠ gl := fun e => aDL.out gd rfl (by rw [e]; rfl)
        have g1lt : g1 < w.heap.size := World.block_lt_of_cell? w _ (I1.at0 0 (by omega))
        have g2lt : g2 < w.heap.size := World.block_lt_of_cell? w _ (I2.at0 0 (by omega))
        have g3lt : g3 < w.heap.size := World.block_lt_of_cell? w _ (I3.at0 0 (by omega))
        have z1 : (wr.alloc (.cells #[.nilFunc] 55)).cell? ⟨wr.heap.size, 0, none⟩ = some .nilFunc := by simp [go_sem]
        have z2 : (wr.alloc (.cells #[.nilFunc] 55)).frozen? ⟨wr.heap.size, 0, none⟩ = false := by simp [go_sem]
        have q7 : Below wr.heap.size wr (wr.alloc (.cells #[.func (.func 46) #[] #[.pointer (some ⟨w.heap.size, 0, none⟩), .pointer (some ⟨w.heap.size + 1 + 1, 0, none⟩), .pointer (some ⟨w.heap.size + 1, 0, none⟩)]] 55)) := (Below.refl _ _).alloc (Nat.le_refl _) _
        have kF : (wr.alloc (.cells #[.func (.func 46) #[] #[.pointer (some ⟨w.heap.size, 0, none⟩), .pointer (some ⟨w.heap.size + 1 + 1, 0, none⟩), .pointer (some ⟨w.heap.size + 1, 0, none⟩)]] 55)).cell? ⟨wr.heap.size, 0, none⟩ = some (.func (.func 46) #[] #[.pointer (some ⟨w.heap.size, 0, none⟩), .pointer (some ⟨w.heap.size + 1 + 1, 0, none⟩), .pointer (some ⟨w.heap.size + 1, 0, none⟩)]) := by simp [go_sem]
        have B7 := bnext hbr q7
        have hO7 := hvO.below q7
        have hD7 := hvD.below q7
        have hL7 := hvL.below q7
        generalize hw7 : (wr.alloc (.cells #[.func (.func 46) #[] #[.pointer (some ⟨w.heap.size, 0, none⟩), .pointer (some ⟨w.heap.size + 1 + 1, 0, none⟩), .pointer (some ⟨w.heap.size + 1, 0, none⟩)]] 55)) = w7 at *
        have HSD : SdIn w7 k g1 c1 g2 c2 n3 g3 c3 w.heap.size (w.heap.size + 1 + 1) (w.heap.size + 1) f1 f2 f3 :=
          ⟨Below.cellOf B7 rfl kL, Below.cellOf B7 rfl kK, Below.cellOf B7 rfl kR, fun i hi => (J1.below B7).at0 i hi, fun i hi => (J2.below B7).at0 i hi, fun i hi => (J3.below B7).at0 i hi⟩
        have hrow : RowAt w7 gd k ido := ⟨fun i hi => by rw [Nat.zero_add]; exact hD7.cellTab i hi, fun i => hD7.freeAt i⟩
        have hsz7 := B7.size
        have HSORT := Lib.hid (sortStable_sd k gd cd (.pointer (some ⟨wr.heap.size, 0, none⟩)) (pkey (sdR f1 f2 f3)) ido w7 (by omega) (sd_cmp HSD kF HI.out HJ.out HK.out ⟨by omega, by omega, by omega, by omega, by omega, by omega, by omega⟩) hrow (fun p q h1 h2 => by show (p : Int) < (q : Int); omega) (ido_rng k))
        have HO7 := Lib.hid hO7
        have HL7 := Lib.hid hL7
        have HB7 := Lib.hid B7
        clear hO7 hL7 hD7 hrow kF hvO hvD hvL B7 HSD q7
        go_wp2_with fail
        refine HSORT.out.mono ?_
        rintro e w8 ⟨rfl, o, hR8, hM8, hS8, hK8⟩
        have HORD := Lib.hid (Ord.of hM8)
        have HSRT := Lib.hid hS8
        have hO8 := hK8.own HO7.out (fun j hj => by have h' : gv = j := Option.some.inj hj; omega)
        have hL8 := hK8.own HL7.out (fun j hj => by have h' : gl = j := Option.some.inj hj; omega)
        have hB8 : Below w1.heap.size w1 w8 := HB7.out.trans (hK8.toBelow (fun j hj => by have h' : j = gd := hj; omega) hsz7)
        have HL0' : Hid (∀ i, 0 ≤ sdL f1 f2 f3 k r i) := fun i => (sdL_bd i).1
        have HE1 : Hid (tab (sdQ f1 f2 f3) k = tab (spO f2 (sdR f1 f2 f3) (sdQ f1 f2 f3) (sdL f1 f2 f3 k r) o k 0) k) := by show _ = _; rw [spO_zero]
        have HE2 : Hid (tab (sdLF f1 f2 f3 k r k) n3 = tab (spL f2 (sdL f1 f2 f3 k r) o 0) n3) := by show _ = _; rw [spL_zero HL0'.out]; rfl
        rw [HE1.out] at hO8
        rw [HE2.out] at hL8
        have HKB : Hid (∀ i, i < k → 0 ≤ f2 i) := fun i hi => (HJ.out i hi).1
        have HSPL : Hid (∀ j i, 0 ≤ spL f2 (sdL f1 f2 f3 k r) o j i ∧ spL f2 (sdL f1 f2 f3 k r) o j i ≤ k) := fun j i => by
          have a := sdL_bd (f1 := f1) (f2 := f2) (f3 := f3) (n := k) (r := r) i
          have b := sumTo_bd (f := fun x => if f2 x = (i : Int) then 1 else 0) (l := 0) (h := 1) (n := k) (fun x _ => by by_cases e : f2 x = (i : Int) <;> simp [e]) (by omega) (by omega) k (Nat.le_refl _)
          have c : cnt f2 i k = sumTo (fun x => if f2 x = (i : Int) then 1 else 0) k := rfl
          unfold spL
          omega
        have HSPO : Hid (∀ j, j ≤ k → ∀ i, i < k → 0 ≤ spO f2 (sdR f1 f2 f3) (sdQ f1 f2 f3) (sdL f1 f2 f3 k r) o k j i ∧ spO f2 (sdR f1 f2 f3) (sdQ f1 f2 f3) (sdL f1 f2 f3 k r) o k j i ≤ 1000000000001 + (j : Int)) := fun j hj i hi => by
          have a := gO_bd (r := mask f2 (f2 i) (sdR f1 f2 f3)) (n := k) (fun i hi => HQB.out i hi) (min (cj f2 o (f2 i) j) (sdL f1 f2 f3 k r (f2 i).toNat).toNat) i hi
          have b := cj_le (kd := f2) (o := o) (f2 i) j
          unfold spO
          omega
        have HYES : Hid (∀ j, j < k → 0 < spL f2 (sdL f1 f2 f3 k r) o j (f2 (o j).toNat).toNat → _) := fun j hj hp => sp_yes (kd := f2) (r := sdR f1 f2 f3) (q := sdQ f1 f2 f3) (fun i _ => (sdR_bd i).1) HORD.out HSRT.out HL0'.out HKB.out hj hp
        have HNO : Hid (∀ j, j < k → ¬ 0 < spL f2 (sdL f1 f2 f3 k r) o j (f2 (o j).toNat).toNat → _) := fun j hj hp => sp_no (kd := f2) (r := sdR f1 f2 f3) (q := sdQ f1 f2 f3) HORD.out HL0'.out HKB.out hj hp
        have HEND : Hid (tab (spO f2 (sdR f1 f2 f3) (sdQ f1 f2 f3) (sdL f1 f2 f3 k r) o k k) k = tab (sdO f1 f2 f3 k r) k) := tab_congr _ _ k (fun i hi => sdO_end HORD.out HKB.out hi)
        obtain ⟨OF, hOF⟩ : ∃ OF, spO f2 (sdR f1 f2 f3) (sdQ f1 f2 f3) (sdL f1 f2 f3 k r) o k = OF := ⟨_, rfl⟩
        obtain ⟨LF, hLF⟩ : ∃ LF, spL f2 (sdL f1 f2 f3 k r) o = LF := ⟨_, rfl⟩
        rw [hOF] at hO8 HSPO HYES HNO HEND
        rw [hLF] at hL8 HSPL HYES HNO
        clear hM8 hS8 hK8 hOF hLF HE1 HE2 HQB HLB HT0 HLL HSORT HO7 HL7
        go_wp2_with fail
        go_loopw [73] (fun i wr => ∃ j : Nat, j ≤ k ∧ i = .int .i64 j ∧ Own 2 wr w1.heap.size (.slice (some ⟨gv, 0, none⟩) k cv) (tab (OF j) k) ∧ Own 2 wr w1.heap.size (.slice (some ⟨gl, 0, none⟩) n3 cl) (tab (LF j) n3) ∧ RowAt wr gd k o ∧ Below w1.heap.size w1 wr) (fun i _ => k - (intOf i).toNat)
        case atStart => exact ⟨0, Nat.zero_le _, rfl, hO8, hL8, hR8, hB8⟩
        case round =>
          obtain ⟨j, hj, rfl, hv, hl, hR, hbq⟩ := hrel
          by_cases hlt2 : j < k
          · have ho := HORD.out.rng j hlt2
            obtain ⟨b, hb⟩ : ∃ b : Nat, o j = b := ⟨(o j).toNat, by omega⟩
            have hbk : b < k := by omega
            obtain ⟨b0, b1'⟩ := HJ.out b hbk
            obtain ⟨q, hq⟩ : ∃ q : Nat, f2 b = q := ⟨(f2 b).toNat, by omega⟩
            have hq3 : q < n3 := by omega
            have x1 := hR.at j hlt2
            rw [hb] at x1
            have x2 := (J2.below hbq).at0 b hbk
            rw [hq] at x2
            have HX2 : Hid (∀ w', Below w1.heap.size w1 w' → w'.cell? ⟨g2, b, none⟩ = some (.int .i64 (q : Int))) := fun w' hb' => by have := (J2.below hb').at0 b hbk; rwa [hq] at this
            have x3 := Below.cellOf hbq rfl kK
            have x4 := hv.cellTab b hbk
            have x5 := hl.cellTab q hq3
            have x6 := hv.freeAt b
            have x7 := hl.freeAt q
            have hob := HSPO.out j hj b hbk
            have hlb := HSPL.out j q
            have hyes := HYES.out j hlt2
            have hno := HNO.out j hlt2
            rw [hb, show ((b : Nat) : Int).toNat = b by omega, hq, show ((q : Nat) : Int).toNat = q by omega] at hyes hno
            have HY := Lib.hid hyes
            have HN := Lib.hid hno
            have HV3 := Lib.hid hv
            have HL3 := Lib.hid hl
            have HR3 := Lib.hid hR
            have l4 : (j : Int) < k := by omega
            have l5 : (b : Int) < k := by omega
            have l6 : (q : Int) < n3 := by omega
            clear hv hl hR hyes hno hb hq b0 b1' ho
            by_cases hp : 0 < LF j q
            · obtain ⟨y1, y2⟩ := HY.out (by omega)
              have hv4 := HV3.out.tabSet (OF (j + 1)) b hbk (OF j b + 1) (by rw [y1 b hbk, upd_at]) (fun i hi hne => by rw [y1 i hi, upd_ne _ _ hne])
              have hl4 := (HL3.out.keepV ⟨gv, b, none⟩ (fun e => hvl (Option.some.inj e).symm) (.int .i64 (OF j b + 1))).tabSet (LF (j + 1)) q hq3 (LF j q - 1) (by rw [y2, upd_at]) (fun i _ hne => by rw [y2, upd_ne _ _ hne])
              have hv5 := hv4.keepV ⟨gl, q, none⟩ (fun e => hvl (Option.some.inj e)) (.int .i64 (LF j q - 1))
              have HV5 := Lib.hid hv5
              have HL5 := Lib.hid hl4
              have HR5 : Hid (RowAt ((wr.setCell ⟨gv, b, none⟩ (.int .i64 (OF j b + 1))).setCell ⟨gl, q, none⟩ (.int .i64 (LF j q - 1))) gd k o) := ⟨fun i hi => by rw [World.cell?_setCell_other _ _ _ _ (by intro h; cases h; exact hdl rfl), World.cell?_setCell_other _ _ _ _ (by intro h; cases h; exact hvd rfl)]; exact HR3.out.1 i hi, fun i => by rw [World.frozen?_setCell, World.frozen?_setCell]; exact HR3.out.2 i⟩
              have hb5 := hbq.setCell (p := ⟨gv, b, none⟩) (by show w1.heap.size ≤ gv; omega) (.int .i64 (OF j b + 1))
              have x8 := Below.cellOf hb5 rfl kK
              have x9 := HX2.out _ hb5
              have hl3 := HL3.out.keepV ⟨gv, b, none⟩ (fun e => hvl (Option.some.inj e).symm) (.int .i64 (OF j b + 1))
              have x10 := hl3.cellTab q hq3
              have x11 := hl3.freeAt q
              have HB5 := Lib.hid (hb5.setCell (p := ⟨gl, q, none⟩) (by show w1.heap.size ≤ gl; omega) (.int .i64 (LF j q - 1)))
              clear hv4 hl4 hv5 y1 y2 hb5 hl3
              go_wp2_with fail
              go_roundw
              case rel => exact ⟨j + 1, by omega, by go_num, HV5.out, HL5.out, HR5.out, HB5.out⟩
              case measure => simp [intOf]; omega
            · obtain ⟨y1, y2⟩ := HN.out (by omega)
              have HV5 := HV3.out
              have HL5 := HL3.out
              rw [← y1] at HV5
              rw [← y2] at HL5
              clear y1 y2
              go_wp2_with fail
              go_roundw
              case rel => exact ⟨j + 1, by omega, by go_num, HV5, HL5, HR3.out, hbq⟩
              case measure => simp [intOf]; omega
          · obtain rfl : j = k := by omega
            rw [HEND.out] at hv
            go_wp2_with fail
            go_ret2
            exact ⟨_, rfl, hv.mono (by omega), by rw [tab_length]; omega, bnext C1 hbq⟩
end Go.Proofs.Ytnikfcaloielaaa
