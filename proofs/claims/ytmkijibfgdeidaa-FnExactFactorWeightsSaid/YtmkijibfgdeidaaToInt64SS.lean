/-
  Slices of slices of integers: how they are opened, sized and copied. Condition: at most 1048576 lists and integers in all.
-/
import Derived.Test.YtmkijibfgdeidaaOpen
import Derived.Test.YtmkijibfgdeidaaRec
import Derived.Test.YtmkijibfgdeidaaSzI
import Derived.Test.YtmkijibfgdeidaaToInt64S
import Derived.Deep.Slices
namespace Go.Proofs.Ytmkijibfgdeidaa
open Go.ChangeShapes Go.WideShapes Go.RowKit Go.Deep
set_option linter.unusedVariables false

/-- So many lists. -/
structure RecL where
  length : Nat
  f : Nat → List Int
def lsum (f : Nat → List Int) : Nat → Nat
  | 0 => 0
  | k + 1 => lsum f k + (f k).length
def tot (X : RecL) : Nat := lsum X.f X.length
theorem lsum_mono (f : Nat → List Int) : ∀ n k, k ≤ n → lsum f k ≤ lsum f n := by
  intro n
  induction n with
  | zero => intro k hk; obtain rfl : k = 0 := by omega
            exact Nat.le_refl _
  | succ n ih =>
    intro k hk
    by_cases h : k ≤ n
    · have := ih k h
      simp only [lsum]
      omega
    · obtain rfl : k = n + 1 := by omega
      exact Nat.le_refl _
theorem lsum_at (f : Nat → List Int) {n k : Nat} (hk : k < n) : lsum f k + (f k).length ≤ lsum f n := lsum_mono f n (k + 1) hk

/-- Lists that came in. -/
def InII (w : World) (v : Value) (X : RecL) : Prop :=
  ∃ a cap, v = .slice a X.length cap ∧ X.length ≤ maxLen ∧ (X.length ≠ 0 → ∃ g off, a = some ⟨g, off, none⟩ ∧ ∀ i, i < X.length → ∃ ad c, w.cell? ⟨g, off + i, none⟩ = some (.slice ad (X.f i).length c) ∧ InI w (.slice ad (X.f i).length c) (X.f i) ∧ (X.f i).length ≤ maxLen)
theorem InII.below {w w' : World} {v : Value} {X : RecL} (h : InII w v X) (hb : Below w.heap.size w w') : InII w' v X := by
  obtain ⟨a, cap, hv, hm, h⟩ := h
  refine ⟨a, cap, hv, hm, fun hx => ?_⟩
  obtain ⟨g, off, ha, hi⟩ := h hx
  refine ⟨g, off, ha, fun i hi' => ?_⟩
  obtain ⟨ad, c, h1, h2, h3⟩ := hi i hi'
  exact ⟨ad, c, Below.cellOf hb rfl h1, h2.below hb, h3⟩
/-- Lists in the call's own memory, each in a block of its own. -/
def RowII (E : TypeId) (w : World) (B T : Nat) (v : Value) (X : RecL) : Prop :=
  ∃ (g : Nat) (vs : Nat → Value), v = .slice (some ⟨g, 0, none⟩) X.length X.length ∧ B ≤ g ∧ g < T ∧ T ≤ w.heap.size ∧ X.length < 1000000000 ∧
    (∀ i, i < X.length → w.cell? ⟨g, i, none⟩ = some (vs i) ∧ RowI E w B (vs i) (X.f i) ∧ ∀ k, (vs i).ownBlock = some k → k ≠ g ∧ k < T) ∧
    ∀ i j k, i < j → j < X.length → (vs i).ownBlock = some k → (vs j).ownBlock = some k → False
theorem RowII.lt {E : TypeId} {w : World} {B T : Nat} {v : Value} {X : RecL} (h : RowII E w B T v X) : ∀ k, B ≤ k ∧ k < T → B ≤ k ∧ k < T := fun _ h => h
theorem RowII.below {E : TypeId} {w w' : World} {B T : Nat} {v : Value} {X : RecL} (h : RowII E w B T v X) (hb : Below w.heap.size w w') : RowII E w' B T v X := by
  obtain ⟨g, vs, rfl, h1, h2, h3, h4, h5, h6⟩ := h
  exact ⟨g, vs, rfl, h1, h2, Nat.le_trans h3 hb.size, h4, fun i hi => by
    obtain ⟨a, b, c⟩ := h5 i hi
    exact ⟨Below.cellOf hb rfl a, b.below hb, c⟩, h6⟩
theorem only_cell {lo hi g i : Nat} {w w' : World} {v : Value} (ho : Only lo hi w w') (hd : g < lo ∨ hi ≤ g) (h : w.cell? ⟨g, i, none⟩ = some v) : w'.cell? ⟨g, i, none⟩ = some v := by
  have hg : g < w.heap.size := World.block_lt_of_cell? w _ h
  have e := ho.block g hg hd
  unfold World.cell? at h ⊢
  rw [show (⟨g, i, none⟩ : Addr).block = g from rfl] at h ⊢
  rw [e]
  exact h
theorem RowII.only {E : TypeId} {w w' : World} {B T lo hi : Nat} {v : Value} {X : RecL} (h : RowII E w B T v X) (ho : Only lo hi w w') (hd : ∀ k, B ≤ k ∧ k < T → k < lo ∨ hi ≤ k) : RowII E w' B T v X := by
  obtain ⟨g, vs, rfl, h1, h2, h3, h4, h5, h6⟩ := h
  exact ⟨g, vs, rfl, h1, h2, Nat.le_trans h3 ho.size, h4, fun i hi => by
    obtain ⟨a, b, c⟩ := h5 i hi
    exact ⟨only_cell ho (hd g ⟨h1, h2⟩) a, b.only ho (fun k hk => hd k ⟨(b.lt k hk).1, (c k hk).2⟩), c⟩, h6⟩

set_option maxHeartbeats 800000 in
theorem sz_ii_yes {w : World} {v : Value} {X : RecL} (h : InII w v X) {L : Int} (hs : (X.length : Int) + tot X ≤ L) (hL : 0 ≤ L ∧ L ≤ 1048576) : Calls Try.prog 4 #[v, .int .i64 L] w (RetV w (.int .i64 (L - (X.length + tot X)))) := by
  obtain ⟨a, cap, rfl, hm, h⟩ := h
  obtain ⟨n, f⟩ := X
  unfold maxLen at hm
  dsimp only at *
  have HTT : Hid (tot ⟨n, f⟩ = lsum f n) := rfl
  rw [HTT.out] at hs ⊢
  by_cases h0 : n = 0
  · subst h0
    have e : lsum f 0 = 0 := rfl
    rw [e]
    go_enter Try.func4, Try.ntmps4
    go_wp2
    go_rounds 1
    go_ret
    exact ⟨by simp, Below.refl _ _⟩
  · obtain ⟨g, off, rfl, hI⟩ := h h0
    have HI := Lib.hid hI
    have HA : Hid (∀ k, k < n → lsum f k + (f k).length ≤ lsum f n) := fun k hk => lsum_at f hk
    clear hI h
    obtain ⟨T, hT⟩ : ∃ T, lsum f n = T := ⟨_, rfl⟩
    rw [hT] at hs HA ⊢
    have HT := Lib.hid hT
    clear hT
    go_enter Try.func4, Try.ntmps4
    go_wp2
    go_loopw [1, 5] (fun l i wr => ∃ k : Nat, k ≤ n ∧ i = .int .i64 k ∧ l = .int .i64 (L - n - lsum f k) ∧ wr = w) (fun _ i _ => n - (intOf i).toNat)
    case atStart => exact ⟨0, Nat.zero_le _, rfl, by show _ = Value.int .i64 (L - n - (0 : Nat)); go_num, rfl⟩
    case round =>
      obtain ⟨k, hk, rfl, rfl, rfl⟩ := hrel
      by_cases hlt : k < n
      · obtain ⟨ad, c, h1, _, h3⟩ := HI.out k hlt
        have ha := HA.out k hlt
        have HN : Hid (lsum f (k + 1) = lsum f k + (f k).length) := rfl
        obtain ⟨z, hz⟩ : ∃ z, lsum f k = z := ⟨_, rfl⟩
        obtain ⟨y, hy⟩ : ∃ y, (f k).length = y := ⟨_, rfl⟩
        rw [hz, hy] at ha
        rw [hz, hy] at HN
        rw [hy] at h1 h3
        rw [hz]
        clear hz hy
        have l1 : (k : Int) < n := by omega
        have l2 : ¬ (L - n - z - y : Int) < 0 := by omega
        go_wp2_with (first | (go_at_call 14; refine (szi_yes _ _ _ _ _ h3 (by omega) (by omega)).mono ?_; rintro e w' ⟨rfl, rfl⟩))
        go_roundw
        case rel => exact ⟨k + 1, by omega, by go_num, by rw [HN.out]; go_num, trivial⟩
        case measure => simp [intOf]; omega
      · obtain rfl : k = n := by omega
        go_wp2
        go_ret
        exact ⟨ret_int (by have := HT.out; omega), Below.refl _ _⟩

set_option maxHeartbeats 800000 in
theorem sz_ii_no {w : World} {v : Value} {X : RecL} (h : InII w v X) {L : Int} (hs : L < (X.length : Int) + tot X) (hL : 0 ≤ L ∧ L ≤ 1048576) : Calls Try.prog 4 #[v, .int .i64 L] w (RetV w (.int .i64 (-1))) := by
  obtain ⟨a, cap, rfl, hm, h⟩ := h
  obtain ⟨n, f⟩ := X
  unfold maxLen at hm
  dsimp only at *
  have HTT : Hid (tot ⟨n, f⟩ = lsum f n) := rfl
  rw [HTT.out] at hs
  by_cases hL0 : L < n
  · clear h
    go_enter Try.func4, Try.ntmps4
    go_wp2
    go_ret
    exact ⟨rfl, Below.refl _ _⟩
  · by_cases h0 : n = 0
    · subst h0
      have e : lsum f 0 = 0 := rfl
      rw [e] at hs
      omega
    · obtain ⟨g, off, rfl, hI⟩ := h h0
      have HI := Lib.hid hI
      clear hI h
      obtain ⟨T, hT⟩ : ∃ T, lsum f n = T := ⟨_, rfl⟩
      rw [hT] at hs
      have HT := Lib.hid hT
      clear hT
      go_enter Try.func4, Try.ntmps4
      go_wp2
      go_loopw [1, 5] (fun l i wr => ∃ k : Nat, k ≤ n ∧ i = .int .i64 k ∧ l = .int .i64 (L - n - lsum f k) ∧ 0 ≤ L - n - lsum f k ∧ wr = w) (fun _ i _ => n - (intOf i).toNat)
      case atStart => exact ⟨0, Nat.zero_le _, rfl, by show _ = Value.int .i64 (L - n - (0 : Nat)); go_num, by show 0 ≤ L - n - (0 : Nat); omega, rfl⟩
      case round =>
        obtain ⟨k, hk, rfl, rfl, hp, rfl⟩ := hrel
        by_cases hlt : k < n
        · obtain ⟨ad, c, h1, _, h3⟩ := HI.out k hlt
          have HN : Hid (lsum f (k + 1) = lsum f k + (f k).length) := rfl
          obtain ⟨z, hz⟩ : ∃ z, lsum f k = z := ⟨_, rfl⟩
          obtain ⟨y, hy⟩ : ∃ y, (f k).length = y := ⟨_, rfl⟩
          rw [hz] at hp ⊢
          rw [hz, hy] at HN
          rw [hy] at h1 h3
          clear hz hy
          have l1 : (k : Int) < n := by omega
          by_cases hc : (y : Int) ≤ L - n - z
          · have l2 : ¬ (L - n - z - y : Int) < 0 := by omega
            go_wp2_with (first | (go_at_call 14; refine (szi_yes _ _ _ _ _ h3 (by omega) (by omega)).mono ?_; rintro e w' ⟨rfl, rfl⟩))
            go_roundw
            case rel => exact ⟨k + 1, by omega, by go_num, by rw [HN.out]; go_num, by rw [HN.out]; omega, trivial⟩
            case measure => simp [intOf]; omega
          · go_wp2_with (first | (go_at_call 14; refine (szi_no _ _ _ _ _ h3 (by omega) (by omega)).mono ?_; rintro e w' ⟨rfl, rfl⟩))
            go_ret
            exact ⟨rfl, Below.refl _ _⟩
        · obtain rfl : k = n := by omega
          rw [HT.out] at hp
          omega

set_option maxHeartbeats 800000 in
theorem toII_core (n g off cap : Nat) (f : Nat → List Int) (w : World) (hn : n < 1000000000) (hI : ∀ i, i < n → ∃ ad c, w.cell? ⟨g, off + i, none⟩ = some (.slice ad (f i).length c) ∧ InI w (.slice ad (f i).length c) (f i) ∧ (f i).length < 1000000000) :
    Calls Try.prog 6 #[.slice (some ⟨g, off, none⟩) n cap] w fun e w' => ∃ v, e = .returned v ∧ RowII 2 w' w.heap.size w'.heap.size v ⟨n, f⟩ ∧ Below w.heap.size w w' := by
  have HI := Lib.hid hI
  clear hI
  go_enter Try.func6, Try.ntmps6
  go_wp2_with (first | (at_make; refine wpList_mkR _ rfl _ _ 22 rfl 23 (.slice none 0 0) 1 24 (by kernel_rfl) (by decide) Try.underlying22 _ _ _ _ n rfl rfl rfl rfl hn ?_; intro w1 hth hb))
  go_loopw [4] (fun i wr => ∃ (k : Nat) (vs : Nat → Value), k ≤ n ∧ i = .int .i64 k ∧ There wr w.heap.size n ∧ Hid (∀ i, i < k → wr.cell? ⟨w.heap.size, i, none⟩ = some (vs i) ∧ RowI 2 wr w.heap.size (vs i) (f i) ∧ ∀ b, (vs i).ownBlock = some b → b ≠ w.heap.size ∧ b < wr.heap.size) ∧ Hid (∀ i j b, i < j → j < k → (vs i).ownBlock = some b → (vs j).ownBlock = some b → False) ∧ Below w.heap.size w wr) (fun i _ => n - (intOf i).toNat)
  case atStart => exact ⟨0, fun _ => undef, Nat.zero_le _, rfl, by simpa using hth, fun i hi => absurd hi (by omega), fun i j b h1 h2 => absurd h2 (by omega), hb⟩
  case round =>
    obtain ⟨k, vs, hk, rfl, ht, hc, hinj, hbr⟩ := hrel
    by_cases hlt : k < n
    · obtain ⟨ad, c, h1, h2, h3⟩ := HI.out k hlt
      have x1 := Below.cellOf hbr rfl h1
      have x2 := h2.below hbr
      have l1 : (k : Int) < n := by omega
      go_wp2_with (first | (go_at_call 7; refine (to_i x2 h3).mono ?_; rintro e w2 ⟨v2, rfl, hr2, hb2⟩; obtain ⟨gq, cq, rfl⟩ := hr2.2.1; have ht2 := ht.below hb2; obtain ⟨x0, y0⟩ := ht2.at k hlt; have z0 := ht2.2.2 k; have HR2 := Lib.hid hr2; clear hr2))
      have hws : w.heap.size < wr.heap.size := ht.1
      have HC : Hid (∀ i, i < k + 1 → (w2.setCell ⟨w.heap.size, k, none⟩ (Value.slice (some ⟨gq, 0, none⟩) (f k).length cq)).cell? ⟨w.heap.size, i, none⟩ = some ((fun i => if i = k then (Value.slice (some ⟨gq, 0, none⟩) (f k).length cq) else vs i) i) ∧ RowI 2 (w2.setCell ⟨w.heap.size, k, none⟩ (Value.slice (some ⟨gq, 0, none⟩) (f k).length cq)) w.heap.size ((fun i => if i = k then (Value.slice (some ⟨gq, 0, none⟩) (f k).length cq) else vs i) i) (f i) ∧ ∀ b, ((fun i => if i = k then (Value.slice (some ⟨gq, 0, none⟩) (f k).length cq) else vs i) i).ownBlock = some b → b ≠ w.heap.size ∧ b < (w2.setCell ⟨w.heap.size, k, none⟩ (Value.slice (some ⟨gq, 0, none⟩) (f k).length cq)).heap.size) := fun i hi => by
        have hsz : (w2.setCell ⟨w.heap.size, k, none⟩ (Value.slice (some ⟨gq, 0, none⟩) (f k).length cq)).heap.size = w2.heap.size := by simp
        rw [hsz]
        by_cases e : i = k
        · subst e
          simp only [if_true]
          have hr := HR2.out
          refine ⟨World.cell?_setCell_same _ _ _ y0, ⟨(hr.1.block fun b hb => Below.heap_setCell _ _ _ _ (fun h => by have h0 := (hr.lt b hb).1; have h1 : b = w.heap.size := h; omega)).mono (by omega), hr.2⟩, fun b hb => ?_⟩
          have := hr.lt b hb
          omega
        · obtain ⟨a1, a2, a3⟩ := hc.out i (by omega)
          simp only [e, if_false]
          have a2' := a2.below hb2
          refine ⟨by rw [World.cell?_setCell_other _ _ _ _ (by intro h; cases h; exact e rfl)]; exact Below.cellOf hb2 rfl a1, ⟨a2'.1.block fun b hb => Below.heap_setCell _ _ _ _ (fun h => (a3 b hb).1 h), a2'.2⟩, fun b hb => ?_⟩
          have := a3 b hb
          have := hb2.size
          omega
      have HJ : Hid (∀ i j b, i < j → j < k + 1 → ((fun i => if i = k then (Value.slice (some ⟨gq, 0, none⟩) (f k).length cq) else vs i) i).ownBlock = some b → ((fun i => if i = k then (Value.slice (some ⟨gq, 0, none⟩) (f k).length cq) else vs i) j).ownBlock = some b → False) := fun i j b h4 h5 h6 h7 => by
        by_cases e : j = k
        · subst e
          simp only [if_true, show ¬ i = j by omega, if_false] at h6 h7
          have := (HR2.out.lt b h7).1
          have := ((hc.out i h4).2.2 b h6).2
          omega
        · simp only [e, if_false, show ¬ i = k by omega] at h6 h7
          exact hinj.out i j b h4 (by omega) h6 h7
      go_roundw
      case rel => exact ⟨k + 1, _, by omega, by go_num, ht2.set k _, HC, HJ, (hbr.trans (hb2.mono hbr.size)).setCell (Nat.le_refl _) _⟩
      case measure => simp [intOf]; omega
    · obtain rfl : k = n := by omega
      go_wp2
      go_ret
      exact ⟨_, rfl, ⟨w.heap.size, vs, rfl, Nat.le_refl _, ht.1, Nat.le_refl _, hn, hc.out, hinj.out⟩, hbr⟩

theorem toII_none (a : Option Addr) (cap : Nat) (f : Nat → List Int) (w : World) :
    Calls Try.prog 6 #[.slice a 0 cap] w fun e w' => ∃ v, e = .returned v ∧ RowII 2 w' w.heap.size w'.heap.size v ⟨0, f⟩ ∧ Below w.heap.size w w' := by
  go_enter Try.func6, Try.ntmps6
  go_wp2_with (first | (at_make; refine wpList_mkR _ rfl _ _ 22 rfl 23 (.slice none 0 0) 1 24 (by kernel_rfl) (by decide) Try.underlying22 _ _ _ _ 0 rfl rfl rfl rfl (by decide) ?_; intro w1 hth hb))
  go_rounds 1
  go_ret
  exact ⟨_, rfl, ⟨w.heap.size, fun _ => undef, rfl, Nat.le_refl _, hth.1, Nat.le_refl _, by show (0 : Nat) < 1000000000; decide, fun i hi => absurd hi (Nat.not_lt_zero _), fun i j k h1 h2 => absurd h2 (Nat.not_lt_zero _)⟩, hb⟩

theorem to_ii {w : World} {v : Value} {X : RecL} (h : InII w v X) (hn : (X.length : Int) + tot X ≤ 1048576) :
    Calls Try.prog 6 #[v] w (fun e w' => ∃ v, e = .returned v ∧ RowII 2 w' w.heap.size w'.heap.size v X ∧ Below w.heap.size w w') := by
  obtain ⟨a, cap, rfl, _, ha⟩ := h
  obtain ⟨n, f⟩ := X
  by_cases h0 : n = 0
  · subst h0; exact toII_none a cap f w
  · obtain ⟨g, off, rfl, hI⟩ := ha h0
    dsimp only at *
    refine toII_core n g off cap f w (by omega) fun i hi => ?_
    obtain ⟨ad, c, h1, h2, h3⟩ := hI i hi
    have : lsum f i + (f i).length ≤ lsum f n := lsum_at f hi
    have : tot ⟨n, f⟩ = lsum f n := rfl
    exact ⟨ad, c, h1, h2, by omega⟩

theorem openII {H : Type} {enc : TypeId × Value → H} {P : Program} {w : World} {t e e2 : TypeId} {v : Value} {d : DataW H} {p : List MemPlace} (ht : P.underlying t = some (.slice e)) (he : P.underlying e = some (.slice e2)) (he2 : P.underlying e2 = some (.int .i64)) (hC : P.cellsOf e = 1) (hC2 : P.cellsOf e2 = 1)
    {r : Reach} {b0 : Nat} (hv : Value.okWide P w r b0 t v) (h : DataW.Trod enc P w 0 (fun _ => true) true t v d p) :
    ∃ (X : RecL) (ad : Option Addr) (cap : Nat), v = .slice ad X.length cap ∧ InII w (.slice ad X.length cap) X := by
  obtain ⟨a0, len0, cap0, rfl⟩ := okWide_slice ht hv
  obtain ⟨fuel, hf⟩ := h
  rcases open_slice ht (by simpa [Value.cells] using hf) with ⟨hcs, _⟩ | ⟨a, len, cap, m, n, D, Pl, hcs, hb, hl, hm, hmm, hx, hi⟩
  · simp at hcs
    obtain ⟨rfl, rfl, rfl⟩ := hcs
    exact ⟨⟨0, fun _ => []⟩, none, 0, rfl, none, 0, rfl, Nat.zero_le _, fun h => absurd rfl h⟩
  · simp at hcs
    obtain ⟨rfl, rfl, rfl⟩ := hcs
    have hmc : m = cap0 := by simpa using hmm
    obtain ⟨b, off, spot⟩ := a
    have each : ∀ i, i < len0 → ∃ q : List Int × Option Addr × Nat, w.cell? ((⟨b, off, spot⟩ : Addr).add i) = some (.slice q.2.1 q.1.length q.2.2) ∧ InI w (.slice q.2.1 q.1.length q.2.2) q.1 ∧ q.1.length ≤ maxLen := by
      intro i hil
      obtain ⟨cs', hc, ht'⟩ := hi i (by omega)
      rw [hC] at hc
      obtain ⟨_, hcl, hat⟩ := World.cells?_some hc
      obtain ⟨c, rfl⟩ : ∃ c, cs' = [c] := by
        match cs', hcl with
        | [c], _ => exact ⟨c, rfl⟩
      obtain ⟨xs, ad, cap1, rfl, hin⟩ := openI he he2 hC2 ht'
      have h0 := hat 0 (by omega)
      rw [Nat.mul_one, Go.Deep.add_add, Nat.add_zero] at h0
      refine ⟨⟨xs, ad, cap1⟩, h0, hin, ?_⟩
      rcases open_ints he he2 hC2 ht' with ⟨h1, _⟩ | ⟨_, l2, c2, _, h1, _, h2, h3, _⟩
      · simp at h1
        show xs.length ≤ maxLen
        rw [h1.2.1]; exact Nat.zero_le _
      · simp at h1
        show xs.length ≤ maxLen
        omega
    by_cases hz : len0 = 0
    · subst hz
      exact ⟨⟨0, fun _ => []⟩, some ⟨b, off, spot⟩, cap0, rfl, some ⟨b, off, spot⟩, cap0, rfl, Nat.zero_le _, fun h => absurd rfl h⟩
    obtain ⟨q0, hq0, _⟩ := each 0 (by omega)
    have hspot : spot = none := by simpa [Addr.add] using World.cell?_spot hq0
    subst hspot
    have each2 : ∀ i, i < len0 → ∃ q : List Int × Option Addr × Nat, w.cell? ⟨b, off + i, none⟩ = some (.slice q.2.1 q.1.length q.2.2) ∧ InI w (.slice q.2.1 q.1.length q.2.2) q.1 ∧ q.1.length ≤ maxLen := by
      intro i hil
      obtain ⟨q, h1, h2, h3⟩ := each i hil
      have e1 : (⟨b, off, none⟩ : Addr).add i = ⟨b, off + i, none⟩ := by unfold Addr.add; split <;> simp_all
      rw [e1] at h1
      exact ⟨q, h1, h2, h3⟩
    refine ⟨⟨len0, fun i => if hi : i < len0 then (Classical.choose (each2 i hi)).1 else []⟩, some ⟨b, off, none⟩, cap0, rfl, some ⟨b, off, none⟩, cap0, rfl, by show len0 ≤ maxLen; omega, fun hne => ⟨b, off, rfl, fun i hi' => ?_⟩⟩
    have hi2 : i < len0 := hi'
    have hs := Classical.choose_spec (each2 i hi2)
    simp only [hi2, dif_pos]
    exact ⟨_, _, hs.1, hs.2.1, hs.2.2⟩
set_option maxRecDepth 100000 in
theorem Try.openInt64SS {H : Type} {enc : TypeId × Value → H} {w : World} {v : Value} {d : DataW H} {p : List MemPlace} {r : Reach} {b0 : Nat} (hv : Value.okWide Try.prog w r b0 22 v) (h : DataW.Trod enc Try.prog w 0 (fun _ => true) true 22 v d p) :
    ∃ (X : RecL) (ad : Option Addr) (cap : Nat), v = .slice ad X.length cap ∧ InII w (.slice ad X.length cap) X :=
  openII Try.underlying22 Try.underlying23 Try.underlying2 (by kernel_rfl) (by kernel_rfl) hv h
end Go.Proofs.Ytmkijibfgdeidaa
