/-
  impl.DivisorShares and spec.DivisorShares answer alike: every list of fewer than 1000000000 integers, every number. No other condition.
-/
import Derived.Test.YtjpjcdkepconjaaPlaces
import Derived.Test.YtjpjcdkepconjaaTab
import Derived.Deep.QuietTactic
import Derived.BigQuiet
namespace Go.Proofs.Ytjpjcdkepconjaa
open Go.RowKit
set_option linter.unusedVariables false

/-- The best of the first k places. -/
def dshB (f : Nat → Int) (st : Int) (o : Nat → Int) : Nat → Nat
  | 0 => 0
  | k + 1 => if f (dshB f st o k) * (st * o k + 1) < f k * (st * o (dshB f st o k) + 1) then k else dshB f st o k
/-- What the places have after some rounds. -/
def dshO (f : Nat → Int) (st : Int) (n : Nat) : Nat → Nat → Int
  | 0, _ => 0
  | t + 1, i => dshO f st n t i + (if i = dshB f st (dshO f st n t) n then 1 else 0)
def stepOf (o : Bool) : Int := bif o then 2 else 1
def dshOk (t : Int) (f : Nat → Int) (n : Nat) : Bool := plcOk f n && win t 0 1000
def dshL (t : Int) (f : Nat → Int) (n : Nat) (o : Bool) : List Int := bif dshOk t f n then tab (dshO f (stepOf o) n t.toNat) n else []
theorem dsh_no {t : Int} {f : Nat → Int} {n : Nat} {o : Bool} (h : dshOk t f n = false) : dshL t f n o = [] := by simp only [dshL, h, cond_false]
theorem dsh_yes {t : Int} {f : Nat → Int} {n : Nat} {o : Bool} (h : dshOk t f n = true) : dshL t f n o = tab (dshO f (stepOf o) n t.toNat) n := by simp only [dshL, h, cond_true]
def DivisorShares_r0 (t : Int) (xs : List Int) (o : Bool) : List Int := dshL t (fun i => xs.getD i 0) xs.length o
def DivisorShares_r1 (t : Int) (xs : List Int) : Bool := dshOk t (fun i => xs.getD i 0) xs.length
section
variable {f : Nat → Int} {st : Int} {n : Nat}
theorem dshB_lt (o : Nat → Int) : ∀ k, 0 < k → dshB f st o k < k := by
  intro k
  induction k with
  | zero => intro h; omega
  | succ k ih =>
    intro _
    simp only [dshB]
    split
    · omega
    · rcases Nat.eq_zero_or_pos k with h | h
      · subst h; simp [dshB]
      · have := ih h; omega
theorem dshB_one (o : Nat → Int) : dshB f st o 1 = 0 := by
  simp [dshB]
theorem dshB_le (o : Nat → Int) (k : Nat) : dshB f st o k ≤ k := by
  rcases Nat.eq_zero_or_pos k with h | h
  · subst h; simp [dshB]
  · exact Nat.le_of_lt (dshB_lt o k h)
theorem dshO_bd : ∀ t i, 0 ≤ dshO f st n t i ∧ dshO f st n t i ≤ t := by
  intro t
  induction t with
  | zero => intro i; simp [dshO]
  | succ t ih =>
    intro i
    have := ih i
    simp only [dshO]
    split <;> omega
theorem dsh_set (t : Nat) (hn : 0 < n) : (tab (dshO f st n t) n).set (dshB f st (dshO f st n t) n) (dshO f st n t (dshB f st (dshO f st n t) n) + 1) = tab (dshO f st n (t + 1)) n := by
  have e : dshO f st n t (dshB f st (dshO f st n t) n) + 1 = dshO f st n (t + 1) (dshB f st (dshO f st n t) n) := by simp [dshO]
  rw [e]
  exact tab_set _ _ n _ (dshB_lt _ n hn) (fun i _ hi => by simp [dshO, hi])
theorem dsh_prod {x a : Int} (x0 : 0 ≤ x) (x1 : x ≤ 1000000000) (a0 : 0 ≤ a) (a1 : a ≤ 1000) (h : st = 1 ∨ st = 2) : 0 ≤ x * (st * a + 1) ∧ x * (st * a + 1) ≤ 2001000000000 := by
  rcases h with rfl | rfl
  · have : x * (1 * a + 1) ≤ 1000000000 * 2001 := Int.mul_le_mul x1 (by omega) (by omega) (by omega)
    exact ⟨Int.mul_nonneg x0 (by omega), by omega⟩
  · have : x * (2 * a + 1) ≤ 1000000000 * 2001 := Int.mul_le_mul x1 (by omega) (by omega) (by omega)
    exact ⟨Int.mul_nonneg x0 (by omega), by omega⟩
end

theorem below_true (i n g B1 B2 : Nat) (o : Nat → Int) (w : World) (hi : i < n) (hn : n ≤ 12) (o0 : 0 ≤ o i) (o1 : o i ≤ 1000) (c1 : w.cell? ⟨B1, 0, none⟩ = some (.bool true)) (c2 : w.cell? ⟨B2, 0, none⟩ = some (.slice (some ⟨g, 0, none⟩) n n)) (c3 : w.cell? ⟨g, i, none⟩ = some (.int .i64 (o i))) :
    Calls Try.prog 75 #[.int .i64 i, .pointer (some ⟨B1, 0, none⟩), .pointer (some ⟨B2, 0, none⟩)] w fun e w' => e = .returned (.int .i64 (2 * o i + 1)) ∧ w' = w := by
  have l1 : (i : Int) < n := by omega
  go_enter Try.func75, Try.ntmps75
  go_wp2
  go_ret
  exact ⟨ret_int (by omega), rfl⟩

theorem below_false (i n g B1 B2 : Nat) (o : Nat → Int) (w : World) (hi : i < n) (hn : n ≤ 12) (o0 : 0 ≤ o i) (o1 : o i ≤ 1000) (c1 : w.cell? ⟨B1, 0, none⟩ = some (.bool false)) (c2 : w.cell? ⟨B2, 0, none⟩ = some (.slice (some ⟨g, 0, none⟩) n n)) (c3 : w.cell? ⟨g, i, none⟩ = some (.int .i64 (o i))) :
    Calls Try.prog 75 #[.int .i64 i, .pointer (some ⟨B1, 0, none⟩), .pointer (some ⟨B2, 0, none⟩)] w fun e w' => e = .returned (.int .i64 ( o i + 1)) ∧ w' = w := by
  have l1 : (i : Int) < n := by omega
  go_enter Try.func75, Try.ntmps75
  go_wp2
  go_ret
  exact ⟨ret_int (by omega), rfl⟩
/-- A call that leaves a world as it was, behind draws. -/
theorem quietAt {P : Program} {f : FuncId} {args : Array Value} {w : World} {a n : Nat} {v : Value} (h : Calls P f args (w.drewN (a + n)) fun e w' => e = .returned v ∧ w' = w.drewN (a + n)) :
    Calls P f args (w.drewN (a + n)) fun e w'' => e = .returned v ∧ ∃ m, w'' = w.drewN (a + m) := h.mono fun _ _ hw => ⟨hw.1, n, hw.2⟩

set_option maxHeartbeats 3200000 in
set_option maxRecDepth 100000 in
theorem dsh_impl_true (T : Nat) (n g c : Nat) (f : Nat → Int) (w : World) (hn : n < 1000000000) (hI : Ints w g 0 n f) (h1 : plcOk f n = true) (hT : T ≤ 1000) :
    Calls Try.prog 35 #[.int .i64 T, .slice (some ⟨g, 0, none⟩) n c, .bool true] w (RetL1 2 w (tab (dshO f 2 n T) n) true) := by
  obtain ⟨n1, n12, hf, _, _⟩ := plc_is h1
  have HF := Lib.hid hf
  have glt := World.block_lt_of_cell? w _ (hI.at0 0 (by omega))
  have bA : Below w.heap.size w (w.alloc (.cells #[.bool true] 4)) := by go_grown
  have HK0 : Hid ((w.alloc (.cells #[.bool true] 4)).cell? ⟨w.heap.size, 0, none⟩ = some (.bool true)) := by show World.cell? _ _ = _; simp [go_sem]
  have HC : Hid (∀ w' : World, Ints w' g 0 n f → Calls Try.prog 74 #[.slice (some ⟨g, 0, none⟩) n c] w' (RetV w' (.bool true))) := fun w' i => by have := places_impl n g c f w' hn i; rwa [h1] at this
  have hT0 : win (T : Int) 0 1000 = true := win_iff.2 ⟨by omega, by omega⟩
  have T0 : Hid (List.replicate n 0 = tab (dshO f 2 n 0) n) := tab_rep n _ (fun _ => rfl)
  clear hf h1
  go_enter Try.func35, Try.ntmps35
  go_wp2_with fail
  refine (HC.out _ (hI.below bA)).mono ?_
  rintro e w1 ⟨rfl, hb⟩
  have C1 := bnext bA hb
  have k0 := Below.cellOf hb rfl HK0.out
  have K0 := Lib.hid k0
  clear k0
  go_wp2_with (first | (go_at_call 54; refine (impl_within_any _ _ _ _).mono ?_; rintro e w' ⟨rfl, rfl⟩) | (at_make; refine wpList_mk _ rfl _ _ 29 rfl w1.heap.size 2 Try.infoI Try.underlying29 _ _ _ _ n rfl rfl rfl rfl (by omega) (Nat.le_refl _) ?_; intro w2 hown2 hb2))
  have z1 : w.heap.size < w1.heap.size := World.block_lt_of_cell? _ _ K0.out
  have z2 : w1.heap.size < w2.heap.size := (hown2.lt _ rfl).2
  have hown3 := hown2
  rw [T0.out] at hown3
  clear hown2
  have C2 : Below w.heap.size w w2 := bnext C1 hb2
  go_loopw [26] (fun i wr => ∃ t : Nat, t ≤ T ∧ i = .int .i64 t ∧ Own 2 wr w.heap.size (.slice (some ⟨w1.heap.size, 0, none⟩) n n) (tab (dshO f 2 n t) n) ∧ wr.cell? ⟨w2.heap.size, 0, none⟩ = some (.slice (some ⟨w1.heap.size, 0, none⟩) n n) ∧ wr.cell? ⟨w.heap.size, 0, none⟩ = some (.bool true) ∧ Below w.heap.size w wr) (fun i _ => T - (intOf i).toNat)
  case atStart =>
    have b4 : Below w2.heap.size w2 (w2.alloc (.cells #[.slice (some ⟨w1.heap.size, 0, none⟩) n n] 29)) := by go_grown
    exact ⟨0, Nat.zero_le _, rfl, (hown3.mono C1.size).below b4, by simp [go_sem], Below.cellOf b4 rfl ((hb2.cell (p := ⟨w.heap.size, 0, none⟩) z1).trans K0.out), bnext C2 b4⟩
  case round =>
    obtain ⟨t, ht, rfl, hown, q1, q2, hbr⟩ := hrel
    have HQ1 := Lib.hid q1
    have HQ2 := Lib.hid q2
    by_cases hlt : t < T
    · clear q1 q2
      have hJ := hI.below hbr
      have HOB : Hid (∀ i, 0 ≤ dshO f 2 n t i ∧ dshO f 2 n t i ≤ 1000) := fun i => by have := dshO_bd (f := f) (st := 2) (n := n) t i; omega
      have HBL : Hid (∀ k, k ≤ n → dshB f 2 (dshO f 2 n t) k < n) := fun k hk => by
        rcases Nat.eq_zero_or_pos k with h | h
        · subst h; show 0 < n; omega
        · have := dshB_lt (f := f) (st := 2) (dshO f 2 n t) k h; omega
      have HS := Lib.hid (dsh_set (f := f) (st := 2) (n := n) t (by omega))
      have HSO : Hid (∀ k, dshB f 2 (dshO f 2 n t) (k + 1) = if f (dshB f 2 (dshO f 2 n t) k) * (2 * dshO f 2 n t k + 1) < f k * (2 * dshO f 2 n t (dshB f 2 (dshO f 2 n t) k) + 1) then k else dshB f 2 (dshO f 2 n t) k) := fun k => by
        have h : dshB f 2 (dshO f 2 n t) (k + 1) = if f (dshB f 2 (dshO f 2 n t) k) * (2 * dshO f 2 n t k + 1) < f k * (2 * dshO f 2 n t (dshB f 2 (dshO f 2 n t) k) + 1) then k else dshB f 2 (dshO f 2 n t) k := rfl
        simpa only [Int.one_mul] using h
      have HB0 : Hid (dshB f 2 (dshO f 2 n t) 0 = 0) := rfl
      have HT := Lib.hid (tab_length (dshO f 2 n t) n)
      have HCELL : Hid (∀ i, i < n → wr.cell? ⟨w1.heap.size, i, none⟩ = some (.int .i64 (dshO f 2 n t i))) := fun i hi => by
        have := hown.cellAt i (by rw [tab_length]; exact hi)
        rwa [tab_get _ _ _ hi] at this
      have HO := Lib.hid hown
      clear hown
      generalize hBf : dshB f 2 (dshO f 2 n t) = bb at *
      generalize hOf : dshO f 2 n t = oo at *
      go_wp2
      generalize hwA : wr = wA at *
      clear hwA
      go_loopw [30, 10] (fun i b wr => ∃ k : Nat, k ≤ n ∧ i = .int .i64 k ∧ b = .int .i64 (bb k) ∧ ∃ m, wr = wA.drewN m) (fun i _ _ => n - (intOf i).toNat)
      case atStart => exact ⟨0, Nat.zero_le _, rfl, by rw [HB0.out]; rfl, 0, rfl⟩
      case round =>
        obtain ⟨k, hk, rfl, rfl, m, rfl⟩ := hrel
        have hbk := HBL.out k hk
        by_cases hlt2 : k < n
        · have d1 := hJ.at0 k hlt2
          have d2 := hJ.at0 (bb k) hbk
          have o1 := HOB.out k
          have o2 := HOB.out (bb k)
          have f1 := HF.out k hlt2
          have f2 := HF.out (bb k) hbk
          have p1 : 0 ≤ f k * (2 * oo (bb k) + 1) ∧ f k * (2 * oo (bb k) + 1) ≤ 2001000000000 := by simpa only [Int.one_mul] using dsh_prod (st := 2) f1.1 f1.2 o2.1 o2.2 (by omega)
          have p2 : 0 ≤ f (bb k) * (2 * oo k + 1) ∧ f (bb k) * (2 * oo k + 1) ≤ 2001000000000 := by simpa only [Int.one_mul] using dsh_prod (st := 2) f2.1 f2.2 o1.1 o1.2 (by omega)
          have l1 : (k : Int) < n := by omega
          have l2 : ((bb k : Nat) : Int) < n := by omega
          have e1 : IntKind.i64.wrap (f k * (2 * oo (bb k) + 1)) = f k * (2 * oo (bb k) + 1) := IntWalk.i64_in _ (by omega)
          have e2 : IntKind.i64.wrap (f (bb k) * (2 * oo k + 1)) = f (bb k) * (2 * oo k + 1) := IntWalk.i64_in _ (by omega)
          have HC1 : Hid (∀ m', Calls Try.prog 75 #[.int .i64 k, .pointer (some ⟨w.heap.size, 0, none⟩), .pointer (some ⟨w2.heap.size, 0, none⟩)] (wA.drewN m') fun e w' => e = .returned (.int .i64 (2 * oo k + 1)) ∧ w' = wA.drewN m') := fun m' => below_true k n w1.heap.size w.heap.size w2.heap.size oo _ hlt2 (by omega) o1.1 o1.2 (by simpa using HQ2.out) (by simpa using HQ1.out) (by simpa using HCELL.out k hlt2)
          have HC2 : Hid (∀ m', Calls Try.prog 75 #[.int .i64 (bb k : Nat), .pointer (some ⟨w.heap.size, 0, none⟩), .pointer (some ⟨w2.heap.size, 0, none⟩)] (wA.drewN m') fun e w' => e = .returned (.int .i64 (2 * oo (bb k) + 1)) ∧ w' = wA.drewN m') := fun m' => below_true (bb k) n w1.heap.size w.heap.size w2.heap.size oo _ hbk (by omega) o2.1 o2.2 (by simpa using HQ2.out) (by simpa using HQ1.out) (by simpa using HCELL.out (bb k) hbk)
          by_cases hc : f (bb k) * (2 * oo k + 1) < f k * (2 * oo (bb k) + 1)
          · have hN : bb (k + 1) = k := by rw [HSO.out k, if_pos hc]
            have HN := Lib.hid hN
            clear hN
            go_wp2_with fail
            go_quiet ((first | (go_at_call 75; (with_reducible exact quietAt (HC1.out _))) | (go_at_call 75; (with_reducible exact quietAt (HC2.out _)))))
            clear e1 e2
            go_wp2
            go_roundw
            case rel => exact ⟨k + 1, by omega, by go_num, by rw [HN.out], _, rfl⟩
            case measure => simp [intOf]; omega
          · have hN : bb (k + 1) = bb k := by rw [HSO.out k, if_neg hc]
            have HN := Lib.hid hN
            clear hN
            go_wp2_with fail
            go_quiet ((first | (go_at_call 75; (with_reducible exact quietAt (HC1.out _))) | (go_at_call 75; (with_reducible exact quietAt (HC2.out _)))))
            clear e1 e2
            go_wp2
            go_roundw
            case rel => exact ⟨k + 1, by omega, by go_num, by rw [HN.out], _, rfl⟩
            case measure => simp [intOf]; omega
        · obtain rfl : k = n := by omega
          have d5 := HCELL.out (bb k) hbk
          have d6 := HO.out.freeAt (bb k)
          have q1 := HQ1.out
          have q2 := HQ2.out
          have o2 := HOB.out (bb k)
          have l2 : ((bb k : Nat) : Int) < k := by omega
          have q1' : (wA.drewN m).cell? ⟨w2.heap.size, 0, none⟩ = some (.slice (some ⟨w1.heap.size, 0, none⟩) k k) := by simpa using q1
          have q2' : (wA.drewN m).cell? ⟨w.heap.size, 0, none⟩ = some (.bool true) := by simpa using q2
          have HN : Own 2 ((wA.drewN m).setCell ⟨w1.heap.size, bb k, none⟩ (.int .i64 (oo (bb k) + 1))) w.heap.size (.slice (some ⟨w1.heap.size, 0, none⟩) k k) (tab (dshO f 2 k (t + 1)) k) := by
            have := (HO.out.drewN m).set HT.out.symm (bb k) (oo (bb k) + 1)
            rwa [HS.out] at this
          have r1 : ((wA.drewN m).setCell ⟨w1.heap.size, bb k, none⟩ (.int .i64 (oo (bb k) + 1))).cell? ⟨w2.heap.size, 0, none⟩ = some (.slice (some ⟨w1.heap.size, 0, none⟩) k k) := (World.cell?_setCell_other (wA.drewN m) _ _ _ (by intro e; have e1 : w1.heap.size = w2.heap.size := congrArg Addr.block e; omega)).trans q1'
          have r2 : ((wA.drewN m).setCell ⟨w1.heap.size, bb k, none⟩ (.int .i64 (oo (bb k) + 1))).cell? ⟨w.heap.size, 0, none⟩ = some (.bool true) := (World.cell?_setCell_other (wA.drewN m) _ _ _ (by intro e; have e1 : w1.heap.size = w.heap.size := congrArg Addr.block e; omega)).trans q2'
          have HR1 := Lib.hid r1
          have HR2 := Lib.hid r2
          have HNN := Lib.hid HN
          clear r1 r2 HN q1' q2'
          go_wp2
          go_roundw
          case rel => exact ⟨t + 1, by omega, by go_num, HNN.out, HR1.out, HR2.out, (Below.drewN' hbr m).setCell (Nat.le_of_lt z1) _⟩
          case measure => simp [intOf]; omega
    · obtain rfl : t = T := by omega
      have HT := Lib.hid (tab_length (dshO f 2 n t) n)
      go_wp2
      go_ret2
      exact ⟨_, rfl, hown, by rw [HT.out]; omega, hbr⟩

set_option maxHeartbeats 3200000 in
set_option maxRecDepth 100000 in
theorem dsh_impl_false (T : Nat) (n g c : Nat) (f : Nat → Int) (w : World) (hn : n < 1000000000) (hI : Ints w g 0 n f) (h1 : plcOk f n = true) (hT : T ≤ 1000) :
    Calls Try.prog 35 #[.int .i64 T, .slice (some ⟨g, 0, none⟩) n c, .bool false] w (RetL1 2 w (tab (dshO f 1 n T) n) true) := by
  obtain ⟨n1, n12, hf, _, _⟩ := plc_is h1
  have HF := Lib.hid hf
  have glt := World.block_lt_of_cell? w _ (hI.at0 0 (by omega))
  have bA : Below w.heap.size w (w.alloc (.cells #[.bool false] 4)) := by go_grown
  have HK0 : Hid ((w.alloc (.cells #[.bool false] 4)).cell? ⟨w.heap.size, 0, none⟩ = some (.bool false)) := by show World.cell? _ _ = _; simp [go_sem]
  have HC : Hid (∀ w' : World, Ints w' g 0 n f → Calls Try.prog 74 #[.slice (some ⟨g, 0, none⟩) n c] w' (RetV w' (.bool true))) := fun w' i => by have := places_impl n g c f w' hn i; rwa [h1] at this
  have hT0 : win (T : Int) 0 1000 = true := win_iff.2 ⟨by omega, by omega⟩
  have T0 : Hid (List.replicate n 0 = tab (dshO f 1 n 0) n) := tab_rep n _ (fun _ => rfl)
  clear hf h1
  go_enter Try.func35, Try.ntmps35
  go_wp2_with fail
  refine (HC.out _ (hI.below bA)).mono ?_
  rintro e w1 ⟨rfl, hb⟩
  have C1 := bnext bA hb
  have k0 := Below.cellOf hb rfl HK0.out
  have K0 := Lib.hid k0
  clear k0
  go_wp2_with (first | (go_at_call 54; refine (impl_within_any _ _ _ _).mono ?_; rintro e w' ⟨rfl, rfl⟩) | (at_make; refine wpList_mk _ rfl _ _ 29 rfl w1.heap.size 2 Try.infoI Try.underlying29 _ _ _ _ n rfl rfl rfl rfl (by omega) (Nat.le_refl _) ?_; intro w2 hown2 hb2))
  have z1 : w.heap.size < w1.heap.size := World.block_lt_of_cell? _ _ K0.out
  have z2 : w1.heap.size < w2.heap.size := (hown2.lt _ rfl).2
  have hown3 := hown2
  rw [T0.out] at hown3
  clear hown2
  have C2 : Below w.heap.size w w2 := bnext C1 hb2
  go_loopw [26] (fun i wr => ∃ t : Nat, t ≤ T ∧ i = .int .i64 t ∧ Own 2 wr w.heap.size (.slice (some ⟨w1.heap.size, 0, none⟩) n n) (tab (dshO f 1 n t) n) ∧ wr.cell? ⟨w2.heap.size, 0, none⟩ = some (.slice (some ⟨w1.heap.size, 0, none⟩) n n) ∧ wr.cell? ⟨w.heap.size, 0, none⟩ = some (.bool false) ∧ Below w.heap.size w wr) (fun i _ => T - (intOf i).toNat)
  case atStart =>
    have b4 : Below w2.heap.size w2 (w2.alloc (.cells #[.slice (some ⟨w1.heap.size, 0, none⟩) n n] 29)) := by go_grown
    exact ⟨0, Nat.zero_le _, rfl, (hown3.mono C1.size).below b4, by simp [go_sem], Below.cellOf b4 rfl ((hb2.cell (p := ⟨w.heap.size, 0, none⟩) z1).trans K0.out), bnext C2 b4⟩
  case round =>
    obtain ⟨t, ht, rfl, hown, q1, q2, hbr⟩ := hrel
    have HQ1 := Lib.hid q1
    have HQ2 := Lib.hid q2
    by_cases hlt : t < T
    · clear q1 q2
      have hJ := hI.below hbr
      have HOB : Hid (∀ i, 0 ≤ dshO f 1 n t i ∧ dshO f 1 n t i ≤ 1000) := fun i => by have := dshO_bd (f := f) (st := 1) (n := n) t i; omega
      have HBL : Hid (∀ k, k ≤ n → dshB f 1 (dshO f 1 n t) k < n) := fun k hk => by
        rcases Nat.eq_zero_or_pos k with h | h
        · subst h; show 0 < n; omega
        · have := dshB_lt (f := f) (st := 1) (dshO f 1 n t) k h; omega
      have HS := Lib.hid (dsh_set (f := f) (st := 1) (n := n) t (by omega))
      have HSO : Hid (∀ k, dshB f 1 (dshO f 1 n t) (k + 1) = if f (dshB f 1 (dshO f 1 n t) k) * ( dshO f 1 n t k + 1) < f k * ( dshO f 1 n t (dshB f 1 (dshO f 1 n t) k) + 1) then k else dshB f 1 (dshO f 1 n t) k) := fun k => by
        have h : dshB f 1 (dshO f 1 n t) (k + 1) = if f (dshB f 1 (dshO f 1 n t) k) * (1 * dshO f 1 n t k + 1) < f k * (1 * dshO f 1 n t (dshB f 1 (dshO f 1 n t) k) + 1) then k else dshB f 1 (dshO f 1 n t) k := rfl
        simpa only [Int.one_mul] using h
      have HB0 : Hid (dshB f 1 (dshO f 1 n t) 0 = 0) := rfl
      have HT := Lib.hid (tab_length (dshO f 1 n t) n)
      have HCELL : Hid (∀ i, i < n → wr.cell? ⟨w1.heap.size, i, none⟩ = some (.int .i64 (dshO f 1 n t i))) := fun i hi => by
        have := hown.cellAt i (by rw [tab_length]; exact hi)
        rwa [tab_get _ _ _ hi] at this
      have HO := Lib.hid hown
      clear hown
      generalize hBf : dshB f 1 (dshO f 1 n t) = bb at *
      generalize hOf : dshO f 1 n t = oo at *
      go_wp2
      generalize hwA : wr = wA at *
      clear hwA
      go_loopw [30, 10] (fun i b wr => ∃ k : Nat, k ≤ n ∧ i = .int .i64 k ∧ b = .int .i64 (bb k) ∧ ∃ m, wr = wA.drewN m) (fun i _ _ => n - (intOf i).toNat)
      case atStart => exact ⟨0, Nat.zero_le _, rfl, by rw [HB0.out]; rfl, 0, rfl⟩
      case round =>
        obtain ⟨k, hk, rfl, rfl, m, rfl⟩ := hrel
        have hbk := HBL.out k hk
        by_cases hlt2 : k < n
        · have d1 := hJ.at0 k hlt2
          have d2 := hJ.at0 (bb k) hbk
          have o1 := HOB.out k
          have o2 := HOB.out (bb k)
          have f1 := HF.out k hlt2
          have f2 := HF.out (bb k) hbk
          have p1 : 0 ≤ f k * ( oo (bb k) + 1) ∧ f k * ( oo (bb k) + 1) ≤ 2001000000000 := by simpa only [Int.one_mul] using dsh_prod (st := 1) f1.1 f1.2 o2.1 o2.2 (by omega)
          have p2 : 0 ≤ f (bb k) * ( oo k + 1) ∧ f (bb k) * ( oo k + 1) ≤ 2001000000000 := by simpa only [Int.one_mul] using dsh_prod (st := 1) f2.1 f2.2 o1.1 o1.2 (by omega)
          have l1 : (k : Int) < n := by omega
          have l2 : ((bb k : Nat) : Int) < n := by omega
          have e1 : IntKind.i64.wrap (f k * ( oo (bb k) + 1)) = f k * ( oo (bb k) + 1) := IntWalk.i64_in _ (by omega)
          have e2 : IntKind.i64.wrap (f (bb k) * ( oo k + 1)) = f (bb k) * ( oo k + 1) := IntWalk.i64_in _ (by omega)
          have HC1 : Hid (∀ m', Calls Try.prog 75 #[.int .i64 k, .pointer (some ⟨w.heap.size, 0, none⟩), .pointer (some ⟨w2.heap.size, 0, none⟩)] (wA.drewN m') fun e w' => e = .returned (.int .i64 ( oo k + 1)) ∧ w' = wA.drewN m') := fun m' => below_false k n w1.heap.size w.heap.size w2.heap.size oo _ hlt2 (by omega) o1.1 o1.2 (by simpa using HQ2.out) (by simpa using HQ1.out) (by simpa using HCELL.out k hlt2)
          have HC2 : Hid (∀ m', Calls Try.prog 75 #[.int .i64 (bb k : Nat), .pointer (some ⟨w.heap.size, 0, none⟩), .pointer (some ⟨w2.heap.size, 0, none⟩)] (wA.drewN m') fun e w' => e = .returned (.int .i64 ( oo (bb k) + 1)) ∧ w' = wA.drewN m') := fun m' => below_false (bb k) n w1.heap.size w.heap.size w2.heap.size oo _ hbk (by omega) o2.1 o2.2 (by simpa using HQ2.out) (by simpa using HQ1.out) (by simpa using HCELL.out (bb k) hbk)
          by_cases hc : f (bb k) * ( oo k + 1) < f k * ( oo (bb k) + 1)
          · have hN : bb (k + 1) = k := by rw [HSO.out k, if_pos hc]
            have HN := Lib.hid hN
            clear hN
            go_wp2_with fail
            go_quiet ((first | (go_at_call 75; (with_reducible exact quietAt (HC1.out _))) | (go_at_call 75; (with_reducible exact quietAt (HC2.out _)))))
            clear e1 e2
            go_wp2
            go_roundw
            case rel => exact ⟨k + 1, by omega, by go_num, by rw [HN.out], _, rfl⟩
            case measure => simp [intOf]; omega
          · have hN : bb (k + 1) = bb k := by rw [HSO.out k, if_neg hc]
            have HN := Lib.hid hN
            clear hN
            go_wp2_with fail
            go_quiet ((first | (go_at_call 75; (with_reducible exact quietAt (HC1.out _))) | (go_at_call 75; (with_reducible exact quietAt (HC2.out _)))))
            clear e1 e2
            go_wp2
            go_roundw
            case rel => exact ⟨k + 1, by omega, by go_num, by rw [HN.out], _, rfl⟩
            case measure => simp [intOf]; omega
        · obtain rfl : k = n := by omega
          have d5 := HCELL.out (bb k) hbk
          have d6 := HO.out.freeAt (bb k)
          have q1 := HQ1.out
          have q2 := HQ2.out
          have o2 := HOB.out (bb k)
          have l2 : ((bb k : Nat) : Int) < k := by omega
          have q1' : (wA.drewN m).cell? ⟨w2.heap.size, 0, none⟩ = some (.slice (some ⟨w1.heap.size, 0, none⟩) k k) := by simpa using q1
          have q2' : (wA.drewN m).cell? ⟨w.heap.size, 0, none⟩ = some (.bool false) := by simpa using q2
          have HN : Own 2 ((wA.drewN m).setCell ⟨w1.heap.size, bb k, none⟩ (.int .i64 (oo (bb k) + 1))) w.heap.size (.slice (some ⟨w1.heap.size, 0, none⟩) k k) (tab (dshO f 1 k (t + 1)) k) := by
            have := (HO.out.drewN m).set HT.out.symm (bb k) (oo (bb k) + 1)
            rwa [HS.out] at this
          have r1 : ((wA.drewN m).setCell ⟨w1.heap.size, bb k, none⟩ (.int .i64 (oo (bb k) + 1))).cell? ⟨w2.heap.size, 0, none⟩ = some (.slice (some ⟨w1.heap.size, 0, none⟩) k k) := (World.cell?_setCell_other (wA.drewN m) _ _ _ (by intro e; have e1 : w1.heap.size = w2.heap.size := congrArg Addr.block e; omega)).trans q1'
          have r2 : ((wA.drewN m).setCell ⟨w1.heap.size, bb k, none⟩ (.int .i64 (oo (bb k) + 1))).cell? ⟨w.heap.size, 0, none⟩ = some (.bool false) := (World.cell?_setCell_other (wA.drewN m) _ _ _ (by intro e; have e1 : w1.heap.size = w.heap.size := congrArg Addr.block e; omega)).trans q2'
          have HR1 := Lib.hid r1
          have HR2 := Lib.hid r2
          have HNN := Lib.hid HN
          clear r1 r2 HN q1' q2'
          go_wp2
          go_roundw
          case rel => exact ⟨t + 1, by omega, by go_num, HNN.out, HR1.out, HR2.out, (Below.drewN' hbr m).setCell (Nat.le_of_lt z1) _⟩
          case measure => simp [intOf]; omega
    · obtain rfl : t = T := by omega
      have HT := Lib.hid (tab_length (dshO f 1 n t) n)
      go_wp2
      go_ret2
      exact ⟨_, rfl, hown, by rw [HT.out]; omega, hbr⟩

set_option maxHeartbeats 3200000 in
set_option maxRecDepth 100000 in
theorem dsh_spec_true (T : Nat) (n g c : Nat) (f : Nat → Int) (w : World) (hn : n < 1000000000) (hI : Ints w g 0 n f) (h1 : plcOk f n = true) (hT : T ≤ 1000) :
    Calls Try.prog 34 #[.int .i64 T, .slice (some ⟨g, 0, none⟩) n c, .bool true] w (RetL1 2 w (tab (dshO f 2 n T) n) true) := by
  obtain ⟨n1, n12, hf, _, _⟩ := plc_is h1
  have HF := Lib.hid hf
  have HC : Hid (Calls Try.prog 72 #[.slice (some ⟨g, 0, none⟩) n c] w fun e w' => ∃ s : Int, e = .returned (.tuple #[.int .i64 s, .bool true]) ∧ w = w') := (places_spec n g c f w hn hI).mono (fun e w' ⟨s, he, _, hw⟩ => ⟨s, by rw [he, h1], hw⟩)
  have hT0 : win (T : Int) 0 1000 = true := win_iff.2 ⟨by omega, by omega⟩
  have T0 : Hid (List.replicate n 0 = tab (dshO f 2 n 0) n) := tab_rep n _ (fun _ => rfl)
  clear hf h1
  go_enter Try.func34, Try.ntmps34
  go_wp2_with fail
  refine HC.out.mono ?_
  rintro e w1 ⟨s, rfl, rfl⟩
  go_wp2_with (first | (go_at_call 73; refine (spec_l00In_any _ _ _ _).mono ?_; rintro e w' ⟨rfl, rfl⟩) | (at_make; refine wpList_mk _ rfl _ _ 29 rfl w.heap.size 2 Try.infoI Try.underlying29 _ _ _ _ n rfl rfl rfl rfl (by omega) (Nat.le_refl _) ?_; intro w2 hown2 hb2))
  have hown3 := hown2
  rw [T0.out] at hown3
  clear hown2
  go_loopw [0] (fun i wr => ∃ t : Nat, t ≤ T ∧ i = .int .i64 ((T : Int) - t) ∧ Own 2 wr w.heap.size (.slice (some ⟨w.heap.size, 0, none⟩) n n) (tab (dshO f 2 n t) n) ∧ Below w.heap.size w wr) (fun i _ => (intOf i).toNat)
  case atStart => exact ⟨0, Nat.zero_le _, by go_num, hown3, hb2⟩
  case round =>
    obtain ⟨t, ht, rfl, hown, hbr⟩ := hrel
    by_cases hlt : t < T
    · have hJ := hI.below hbr
      have lt1 : (0 : Int) < (T : Int) - t := by omega
      have HOB : Hid (∀ i, 0 ≤ dshO f 2 n t i ∧ dshO f 2 n t i ≤ 1000) := fun i => by have := dshO_bd (f := f) (st := 2) (n := n) t i; omega
      have HBL : Hid (∀ k, k ≤ n → dshB f 2 (dshO f 2 n t) k < n) := fun k hk => by
        rcases Nat.eq_zero_or_pos k with h | h
        · subst h; show 0 < n; omega
        · have := dshB_lt (f := f) (st := 2) (dshO f 2 n t) k h; omega
      have HS := Lib.hid (dsh_set (f := f) (st := 2) (n := n) t (by omega))
      have HSO : Hid (∀ k, dshB f 2 (dshO f 2 n t) (k + 1) = if f (dshB f 2 (dshO f 2 n t) k) * (2 * dshO f 2 n t k + 1) < f k * (2 * dshO f 2 n t (dshB f 2 (dshO f 2 n t) k) + 1) then k else dshB f 2 (dshO f 2 n t) k) := fun k => by
        have h : dshB f 2 (dshO f 2 n t) (k + 1) = if f (dshB f 2 (dshO f 2 n t) k) * (2 * dshO f 2 n t k + 1) < f k * (2 * dshO f 2 n t (dshB f 2 (dshO f 2 n t) k) + 1) then k else dshB f 2 (dshO f 2 n t) k := rfl
        simpa only [Int.one_mul] using h
      have HB1 : Hid (dshB f 2 (dshO f 2 n t) 1 = 0) := dshB_one _
      have HT := Lib.hid (tab_length (dshO f 2 n t) n)
      have HCELL : Hid (∀ i, i < n → wr.cell? ⟨w.heap.size, i, none⟩ = some (.int .i64 (dshO f 2 n t i))) := fun i hi => by
        have := hown.cellAt i (by rw [tab_length]; exact hi)
        rwa [tab_get _ _ _ hi] at this
      have HO := Lib.hid hown
      clear hown
      generalize hBf : dshB f 2 (dshO f 2 n t) = bb at *
      generalize hOf : dshO f 2 n t = oo at *
      go_wp2
      generalize hwA : wr = wA at *
      clear hwA
      go_loopw [13, 12] (fun i b wr => ∃ k : Nat, k + 1 ≤ n ∧ i = .int .i64 ((k : Int) + 1) ∧ b = .int .i64 (bb (k + 1)) ∧ ∃ m, wr = wA.drewN m) (fun i _ _ => n - (intOf i).toNat)
      case atStart => exact ⟨0, n1, by go_num, by rw [HB1.out]; rfl, 0, rfl⟩
      case round =>
        obtain ⟨k, hk, rfl, rfl, m, rfl⟩ := hrel
        have hbk := HBL.out (k + 1) hk
        have l0 : (0 : Int) ≤ (k : Int) + 1 := by omega
        have l00 : ((k : Int) + 1).toNat = k + 1 := by omega
        by_cases hlt2 : k + 1 < n
        · have d1 := hJ.at0 (k + 1) hlt2
          have d2 := hJ.at0 (bb (k + 1)) hbk
          have d3 := HCELL.out (k + 1) hlt2
          have d4 := HCELL.out (bb (k + 1)) hbk
          have o1 := HOB.out (k + 1)
          have o2 := HOB.out (bb (k + 1))
          have f1 := HF.out (k + 1) hlt2
          have f2 := HF.out (bb (k + 1)) hbk
          have p1 : 0 ≤ f (k + 1) * (2 * oo (bb (k + 1)) + 1) ∧ f (k + 1) * (2 * oo (bb (k + 1)) + 1) ≤ 2001000000000 := by simpa only [Int.one_mul] using dsh_prod (st := 2) f1.1 f1.2 o2.1 o2.2 (by omega)
          have p2 : 0 ≤ f (bb (k + 1)) * (2 * oo (k + 1) + 1) ∧ f (bb (k + 1)) * (2 * oo (k + 1) + 1) ≤ 2001000000000 := by simpa only [Int.one_mul] using dsh_prod (st := 2) f2.1 f2.2 o1.1 o1.2 (by omega)
          have l1 : (k : Int) + 1 < n := by omega
          have l2 : ((bb (k + 1) : Nat) : Int) < n := by omega
          have e1 : IntKind.i64.wrap (f (k + 1) * (2 * oo (bb (k + 1)) + 1)) = f (k + 1) * (2 * oo (bb (k + 1)) + 1) := IntWalk.i64_in _ (by omega)
          have e2 : IntKind.i64.wrap (f (bb (k + 1)) * (2 * oo (k + 1) + 1)) = f (bb (k + 1)) * (2 * oo (k + 1) + 1) := IntWalk.i64_in _ (by omega)
          have e3 : IntKind.i64.wrap (2 * oo (bb (k + 1)) + 1) = 2 * oo (bb (k + 1)) + 1 := IntWalk.i64_in _ (by omega)
          have e4 : IntKind.i64.wrap (2 * oo (k + 1) + 1) = 2 * oo (k + 1) + 1 := IntWalk.i64_in _ (by omega)
          have e5 : IntKind.i64.wrap (2 * oo (bb (k + 1))) = 2 * oo (bb (k + 1)) := IntWalk.i64_in _ (by omega)
          have e6 : IntKind.i64.wrap (2 * oo (k + 1)) = 2 * oo (k + 1) := IntWalk.i64_in _ (by omega)
          by_cases hc : f (bb (k + 1)) * (2 * oo (k + 1) + 1) < f (k + 1) * (2 * oo (bb (k + 1)) + 1)
          · have hN : bb (k + 1 + 1) = k + 1 := by rw [HSO.out (k + 1), if_pos hc]
            have HN := Lib.hid hN
            clear hN
            go_wp2_with fail
            go_quiet (fail)
            clear e1 e2 e3 e4 e5 e6
            go_wp2
            go_roundw
            case rel => exact ⟨k + 1, by omega, by go_num, by rw [HN.out]; go_num, _, rfl⟩
            case measure => simp [intOf]; omega
          · have hN : bb (k + 1 + 1) = bb (k + 1) := by rw [HSO.out (k + 1), if_neg hc]
            have HN := Lib.hid hN
            clear hN
            go_wp2_with fail
            go_quiet (fail)
            clear e1 e2 e3 e4 e5 e6
            go_wp2
            go_roundw
            case rel => exact ⟨k + 1, by omega, by go_num, by rw [HN.out], _, rfl⟩
            case measure => simp [intOf]; omega
        · obtain rfl : n = k + 1 := by omega
          have d5 := HCELL.out (bb (k + 1)) hbk
          have d6 := HO.out.freeAt (bb (k + 1))
          have o2 := HOB.out (bb (k + 1))
          have l2 : ((bb (k + 1) : Nat) : Int) < (k + 1 : Nat) := by omega
          have HN : Own 2 ((wA.drewN m).setCell ⟨w.heap.size, bb (k + 1), none⟩ (.int .i64 (oo (bb (k + 1)) + 1))) w.heap.size (.slice (some ⟨w.heap.size, 0, none⟩) (k + 1) (k + 1)) (tab (dshO f 2 (k + 1) (t + 1)) (k + 1)) := by
            have := (HO.out.drewN m).set HT.out.symm (bb (k + 1)) (oo (bb (k + 1)) + 1)
            rwa [HS.out] at this
          have HNN := Lib.hid HN
          clear HN
          go_wp2
          go_roundw
          case rel => exact ⟨t + 1, by omega, by go_num, HNN.out, (Below.drewN' hbr m).setCell (Nat.le_refl _) _⟩
          case measure => simp [intOf]; omega
    · obtain rfl : t = T := by omega
      have HT := Lib.hid (tab_length (dshO f 2 n t) n)
      have lt1 : ¬ (0 : Int) < (t : Int) - t := by omega
      go_wp2
      go_ret2
      exact ⟨_, rfl, hown, by rw [HT.out]; omega, hbr⟩

set_option maxHeartbeats 3200000 in
set_option maxRecDepth 100000 in
theorem dsh_spec_false (T : Nat) (n g c : Nat) (f : Nat → Int) (w : World) (hn : n < 1000000000) (hI : Ints w g 0 n f) (h1 : plcOk f n = true) (hT : T ≤ 1000) :
    Calls Try.prog 34 #[.int .i64 T, .slice (some ⟨g, 0, none⟩) n c, .bool false] w (RetL1 2 w (tab (dshO f 1 n T) n) true) := by
  obtain ⟨n1, n12, hf, _, _⟩ := plc_is h1
  have HF := Lib.hid hf
  have HC : Hid (Calls Try.prog 72 #[.slice (some ⟨g, 0, none⟩) n c] w fun e w' => ∃ s : Int, e = .returned (.tuple #[.int .i64 s, .bool true]) ∧ w = w') := (places_spec n g c f w hn hI).mono (fun e w' ⟨s, he, _, hw⟩ => ⟨s, by rw [he, h1], hw⟩)
  have hT0 : win (T : Int) 0 1000 = true := win_iff.2 ⟨by omega, by omega⟩
  have T0 : Hid (List.replicate n 0 = tab (dshO f 1 n 0) n) := tab_rep n _ (fun _ => rfl)
  clear hf h1
  go_enter Try.func34, Try.ntmps34
  go_wp2_with fail
  refine HC.out.mono ?_
  rintro e w1 ⟨s, rfl, rfl⟩
  go_wp2_with (first | (go_at_call 73; refine (spec_l00In_any _ _ _ _).mono ?_; rintro e w' ⟨rfl, rfl⟩) | (at_make; refine wpList_mk _ rfl _ _ 29 rfl w.heap.size 2 Try.infoI Try.underlying29 _ _ _ _ n rfl rfl rfl rfl (by omega) (Nat.le_refl _) ?_; intro w2 hown2 hb2))
  have hown3 := hown2
  rw [T0.out] at hown3
  clear hown2
  go_loopw [0] (fun i wr => ∃ t : Nat, t ≤ T ∧ i = .int .i64 ((T : Int) - t) ∧ Own 2 wr w.heap.size (.slice (some ⟨w.heap.size, 0, none⟩) n n) (tab (dshO f 1 n t) n) ∧ Below w.heap.size w wr) (fun i _ => (intOf i).toNat)
  case atStart => exact ⟨0, Nat.zero_le _, by go_num, hown3, hb2⟩
  case round =>
    obtain ⟨t, ht, rfl, hown, hbr⟩ := hrel
    by_cases hlt : t < T
    · have hJ := hI.below hbr
      have lt1 : (0 : Int) < (T : Int) - t := by omega
      have HOB : Hid (∀ i, 0 ≤ dshO f 1 n t i ∧ dshO f 1 n t i ≤ 1000) := fun i => by have := dshO_bd (f := f) (st := 1) (n := n) t i; omega
      have HBL : Hid (∀ k, k ≤ n → dshB f 1 (dshO f 1 n t) k < n) := fun k hk => by
        rcases Nat.eq_zero_or_pos k with h | h
        · subst h; show 0 < n; omega
        · have := dshB_lt (f := f) (st := 1) (dshO f 1 n t) k h; omega
      have HS := Lib.hid (dsh_set (f := f) (st := 1) (n := n) t (by omega))
      have HSO : Hid (∀ k, dshB f 1 (dshO f 1 n t) (k + 1) = if f (dshB f 1 (dshO f 1 n t) k) * ( dshO f 1 n t k + 1) < f k * ( dshO f 1 n t (dshB f 1 (dshO f 1 n t) k) + 1) then k else dshB f 1 (dshO f 1 n t) k) := fun k => by
        have h : dshB f 1 (dshO f 1 n t) (k + 1) = if f (dshB f 1 (dshO f 1 n t) k) * (1 * dshO f 1 n t k + 1) < f k * (1 * dshO f 1 n t (dshB f 1 (dshO f 1 n t) k) + 1) then k else dshB f 1 (dshO f 1 n t) k := rfl
        simpa only [Int.one_mul] using h
      have HB1 : Hid (dshB f 1 (dshO f 1 n t) 1 = 0) := dshB_one _
      have HT := Lib.hid (tab_length (dshO f 1 n t) n)
      have HCELL : Hid (∀ i, i < n → wr.cell? ⟨w.heap.size, i, none⟩ = some (.int .i64 (dshO f 1 n t i))) := fun i hi => by
        have := hown.cellAt i (by rw [tab_length]; exact hi)
        rwa [tab_get _ _ _ hi] at this
      have HO := Lib.hid hown
      clear hown
      generalize hBf : dshB f 1 (dshO f 1 n t) = bb at *
      generalize hOf : dshO f 1 n t = oo at *
      go_wp2
      generalize hwA : wr = wA at *
      clear hwA
      go_loopw [13, 12] (fun i b wr => ∃ k : Nat, k + 1 ≤ n ∧ i = .int .i64 ((k : Int) + 1) ∧ b = .int .i64 (bb (k + 1)) ∧ ∃ m, wr = wA.drewN m) (fun i _ _ => n - (intOf i).toNat)
      case atStart => exact ⟨0, n1, by go_num, by rw [HB1.out]; rfl, 0, rfl⟩
      case round =>
        obtain ⟨k, hk, rfl, rfl, m, rfl⟩ := hrel
        have hbk := HBL.out (k + 1) hk
        have l0 : (0 : Int) ≤ (k : Int) + 1 := by omega
        have l00 : ((k : Int) + 1).toNat = k + 1 := by omega
        by_cases hlt2 : k + 1 < n
        · have d1 := hJ.at0 (k + 1) hlt2
          have d2 := hJ.at0 (bb (k + 1)) hbk
          have d3 := HCELL.out (k + 1) hlt2
          have d4 := HCELL.out (bb (k + 1)) hbk
          have o1 := HOB.out (k + 1)
          have o2 := HOB.out (bb (k + 1))
          have f1 := HF.out (k + 1) hlt2
          have f2 := HF.out (bb (k + 1)) hbk
          have p1 : 0 ≤ f (k + 1) * ( oo (bb (k + 1)) + 1) ∧ f (k + 1) * ( oo (bb (k + 1)) + 1) ≤ 2001000000000 := by simpa only [Int.one_mul] using dsh_prod (st := 1) f1.1 f1.2 o2.1 o2.2 (by omega)
          have p2 : 0 ≤ f (bb (k + 1)) * ( oo (k + 1) + 1) ∧ f (bb (k + 1)) * ( oo (k + 1) + 1) ≤ 2001000000000 := by simpa only [Int.one_mul] using dsh_prod (st := 1) f2.1 f2.2 o1.1 o1.2 (by omega)
          have l1 : (k : Int) + 1 < n := by omega
          have l2 : ((bb (k + 1) : Nat) : Int) < n := by omega
          have e1 : IntKind.i64.wrap (f (k + 1) * ( oo (bb (k + 1)) + 1)) = f (k + 1) * ( oo (bb (k + 1)) + 1) := IntWalk.i64_in _ (by omega)
          have e2 : IntKind.i64.wrap (f (bb (k + 1)) * ( oo (k + 1) + 1)) = f (bb (k + 1)) * ( oo (k + 1) + 1) := IntWalk.i64_in _ (by omega)
          have e3 : IntKind.i64.wrap ( oo (bb (k + 1)) + 1) =  oo (bb (k + 1)) + 1 := IntWalk.i64_in _ (by omega)
          have e4 : IntKind.i64.wrap ( oo (k + 1) + 1) =  oo (k + 1) + 1 := IntWalk.i64_in _ (by omega)
          have e5 : IntKind.i64.wrap ( oo (bb (k + 1))) =  oo (bb (k + 1)) := IntWalk.i64_in _ (by omega)
          have e6 : IntKind.i64.wrap ( oo (k + 1)) =  oo (k + 1) := IntWalk.i64_in _ (by omega)
          by_cases hc : f (bb (k + 1)) * ( oo (k + 1) + 1) < f (k + 1) * ( oo (bb (k + 1)) + 1)
          · have hN : bb (k + 1 + 1) = k + 1 := by rw [HSO.out (k + 1), if_pos hc]
            have HN := Lib.hid hN
            clear hN
            go_wp2_with fail
            go_quiet (fail)
            clear e1 e2 e3 e4 e5 e6
            go_wp2
            go_roundw
            case rel => exact ⟨k + 1, by omega, by go_num, by rw [HN.out]; go_num, _, rfl⟩
            case measure => simp [intOf]; omega
          · have hN : bb (k + 1 + 1) = bb (k + 1) := by rw [HSO.out (k + 1), if_neg hc]
            have HN := Lib.hid hN
            clear hN
            go_wp2_with fail
            go_quiet (fail)
            clear e1 e2 e3 e4 e5 e6
            go_wp2
            go_roundw
            case rel => exact ⟨k + 1, by omega, by go_num, by rw [HN.out], _, rfl⟩
            case measure => simp [intOf]; omega
        · obtain rfl : n = k + 1 := by omega
          have d5 := HCELL.out (bb (k + 1)) hbk
          have d6 := HO.out.freeAt (bb (k + 1))
          have o2 := HOB.out (bb (k + 1))
          have l2 : ((bb (k + 1) : Nat) : Int) < (k + 1 : Nat) := by omega
          have HN : Own 2 ((wA.drewN m).setCell ⟨w.heap.size, bb (k + 1), none⟩ (.int .i64 (oo (bb (k + 1)) + 1))) w.heap.size (.slice (some ⟨w.heap.size, 0, none⟩) (k + 1) (k + 1)) (tab (dshO f 1 (k + 1) (t + 1)) (k + 1)) := by
            have := (HO.out.drewN m).set HT.out.symm (bb (k + 1)) (oo (bb (k + 1)) + 1)
            rwa [HS.out] at this
          have HNN := Lib.hid HN
          clear HN
          go_wp2
          go_roundw
          case rel => exact ⟨t + 1, by omega, by go_num, HNN.out, (Below.drewN' hbr m).setCell (Nat.le_refl _) _⟩
          case measure => simp [intOf]; omega
    · obtain rfl : t = T := by omega
      have HT := Lib.hid (tab_length (dshO f 1 n t) n)
      have lt1 : ¬ (0 : Int) < (t : Int) - t := by omega
      go_wp2
      go_ret2
      exact ⟨_, rfl, hown, by rw [HT.out]; omega, hbr⟩
theorem dsh_impl_no (t : Int) (n g c : Nat) (f : Nat → Int) (o : Bool) (w : World) (hn : n < 1000000000) (hI : Ints w g 0 n f) (h : dshOk t f n = false) :
    Calls Try.prog 35 #[.int .i64 t, .slice (some ⟨g, 0, none⟩) n c, .bool o] w (RetL1 2 w [] false) := by
  have bA : Below w.heap.size w (w.alloc (.cells #[.bool o] 4)) := by go_grown
  rcases first_no2 h with h1 | ⟨h1, h2⟩
  all_goals
    clear h
    go_enter Try.func35, Try.ntmps35
    go_wp2_with (first | (go_at_call 54; refine (impl_within_any _ _ _ _).mono ?_; rintro e w' ⟨rfl, rfl⟩) | (go_at_call 74; refine (places_impl n g c f _ hn (hI.below bA)).mono ?_; rintro e w1 ⟨rfl, hb⟩))
    go_ret2
    exact RetL1.no _ (bnext bA hb)
theorem dsh_spec_no (t : Int) (n g c : Nat) (f : Nat → Int) (o : Bool) (w : World) (hn : n < 1000000000) (hI : Ints w g 0 n f) (h : dshOk t f n = false) :
    Calls Try.prog 34 #[.int .i64 t, .slice (some ⟨g, 0, none⟩) n c, .bool o] w (RetL1 2 w [] false) := by
  have HC : Hid (∀ x, plcOk f n = x → Calls Try.prog 72 #[.slice (some ⟨g, 0, none⟩) n c] w fun e w' => ∃ s : Int, e = .returned (.tuple #[.int .i64 s, .bool x]) ∧ w = w') := fun x hx => (places_spec n g c f w hn hI).mono (fun e w' ⟨s, he, _, hw⟩ => ⟨s, by rw [he, hx], hw⟩)
  rcases first_no2 h with h1 | ⟨h1, h2⟩
  all_goals
    clear h
    have HC2 := Lib.hid (HC.out _ h1)
    clear h1
    go_enter Try.func34, Try.ntmps34
    go_wp2_with fail
    refine HC2.out.mono ?_
    rintro e w1 ⟨s, rfl, rfl⟩
    go_wp2_with (first | (go_at_call 73; refine (spec_l00In_any _ _ _ _).mono ?_; rintro e w' ⟨rfl, rfl⟩))
    go_ret2
    exact RetL1.no _ (Below.refl _ _)

theorem DivisorShares_impl {w : World} {B : Nat} {v : Value} {xs : List Int} (t : Int) (hv : RowI 2 w B v xs) (o : Bool) : Calls Try.prog 35 #[.int .i64 t, v, .bool o] w (RetL1 2 w (DivisorShares_r0 t xs o) (DivisorShares_r1 t xs)) := by
  obtain ⟨g, c, rfl, _, _, _, _, hI, _, hn⟩ := hv.form
  cases h : dshOk t (fun i => xs.getD i 0) xs.length
  · have e0 : DivisorShares_r0 t xs o = [] := dsh_no h
    have e1 : DivisorShares_r1 t xs = false := h
    rw [e0, e1]
    exact dsh_impl_no t xs.length g c _ o w hn hI h
  · have e0 : DivisorShares_r0 t xs o = tab (dshO (fun i => xs.getD i 0) (stepOf o) xs.length t.toNat) xs.length := dsh_yes h
    have e1 : DivisorShares_r1 t xs = true := h
    obtain ⟨h1, h2⟩ := all_yes2 h
    obtain ⟨t0, t1⟩ := win_iff.1 h2
    rw [e0, e1]
    obtain ⟨T, rfl⟩ : ∃ T : Nat, t = T := ⟨t.toNat, by omega⟩
    rw [Int.toNat_natCast]
    cases o
    · exact dsh_impl_false T xs.length g c _ w hn hI h1 (by omega)
    · exact dsh_impl_true T xs.length g c _ w hn hI h1 (by omega)

theorem DivisorShares_spec {w : World} {B : Nat} {v : Value} {xs : List Int} (t : Int) (hv : RowI 2 w B v xs) (o : Bool) : Calls Try.prog 34 #[.int .i64 t, v, .bool o] w (RetL1 2 w (DivisorShares_r0 t xs o) (DivisorShares_r1 t xs)) := by
  obtain ⟨g, c, rfl, _, _, _, _, hI, _, hn⟩ := hv.form
  cases h : dshOk t (fun i => xs.getD i 0) xs.length
  · have e0 : DivisorShares_r0 t xs o = [] := dsh_no h
    have e1 : DivisorShares_r1 t xs = false := h
    rw [e0, e1]
    exact dsh_spec_no t xs.length g c _ o w hn hI h
  · have e0 : DivisorShares_r0 t xs o = tab (dshO (fun i => xs.getD i 0) (stepOf o) xs.length t.toNat) xs.length := dsh_yes h
    have e1 : DivisorShares_r1 t xs = true := h
    obtain ⟨h1, h2⟩ := all_yes2 h
    obtain ⟨t0, t1⟩ := win_iff.1 h2
    rw [e0, e1]
    obtain ⟨T, rfl⟩ : ∃ T : Nat, t = T := ⟨t.toNat, by omega⟩
    rw [Int.toNat_natCast]
    cases o
    · exact dsh_spec_false T xs.length g c _ w hn hI h1 (by omega)
    · exact dsh_spec_true T xs.length g c _ w hn hI h1 (by omega)
end Go.Proofs.Ytjpjcdkepconjaa
