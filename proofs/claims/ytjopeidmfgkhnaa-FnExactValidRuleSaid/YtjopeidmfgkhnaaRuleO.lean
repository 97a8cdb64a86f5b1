/-
  A rule in memory: a struct of five fields, one of them a slice, as it came in or in memory of a call's own; how it is opened. No program in sight. No condition.
-/
import Derived.Test.YtjopeidmfgkhnaaBase
import Derived.Test.YtjopeidmfgkhnaaScaleO
import Derived.Test.YtjopeidmfgkhnaaOpen
namespace Go.Proofs.Ytjopeidmfgkhnaa
open Go.ChangeShapes Go.WideShapes Go.RowKit Go.Joins Go.Deep
set_option linter.unusedVariables false

/-- A rule that came in. -/
def InU (w : World) (v : Value) (h : Int) (xs : List Int) (a b k : Int) : Prop :=
  ∃ ad c, v = .agg #[.int .i64 h, .slice ad xs.length c, .int .i64 a, .int .i64 b, .int .i64 k] ∧ xs.length ≤ maxLen ∧ InI w (.slice ad xs.length c) xs
theorem InU.below {w w' : World} {v : Value} {h : Int} {xs : List Int} {a b k : Int} (i : InU w v h xs a b k) (hb : Below w.heap.size w w') : InU w' v h xs a b k := by
  obtain ⟨ad, c, hv, hm, hi⟩ := i
  exact ⟨ad, c, hv, hm, hi.below hb⟩
/-- A rule in the call's own memory. -/
def OwnU (E : TypeId) (w : World) (B : Nat) (v : Value) (h : Int) (xs : List Int) (a b k : Int) : Prop := ∃ vi, v = .agg #[.int .i64 h, vi, .int .i64 a, .int .i64 b, .int .i64 k] ∧ Own E w B vi xs
theorem OwnU.below {E : TypeId} {w w' : World} {B : Nat} {v : Value} {h : Int} {xs : List Int} {a b k : Int} (i : OwnU E w B v h xs a b k) (hb : Below w.heap.size w w') : OwnU E w' B v h xs a b k := by
  obtain ⟨vi, hv, hi⟩ := i
  exact ⟨vi, hv, hi.below hb⟩
def RowU (E : TypeId) (w : World) (B : Nat) (v : Value) (h : Int) (xs : List Int) (a b k : Int) : Prop := ∃ vi, v = .agg #[.int .i64 h, vi, .int .i64 a, .int .i64 b, .int .i64 k] ∧ RowI E w B vi xs
theorem RowU.below {E : TypeId} {w w' : World} {B : Nat} {v : Value} {h : Int} {xs : List Int} {a b k : Int} (i : RowU E w B v h xs a b k) (hb : Below w.heap.size w w') : RowU E w' B v h xs a b k := by
  obtain ⟨vi, hv, hi⟩ := i
  exact ⟨vi, hv, hi.below hb⟩
theorem RowU.own {E : TypeId} {w : World} {B : Nat} {v : Value} {h : Int} {xs : List Int} {a b k : Int} (i : RowU E w B v h xs a b k) : OwnU E w B v h xs a b k := by
  obtain ⟨vi, hv, hi⟩ := i
  exact ⟨vi, hv, hi.own⟩
theorem RowU.lt {E : TypeId} {w : World} {B : Nat} {v : Value} {h : Int} {xs : List Int} {a b k : Int} (i : RowU E w B v h xs a b k) : ∃ vi, v = .agg #[.int .i64 h, vi, .int .i64 a, .int .i64 b, .int .i64 k] ∧ ∀ q, vi.ownBlock = some q → B ≤ q ∧ q < w.heap.size := by
  obtain ⟨vi, hv, hi⟩ := i
  exact ⟨vi, hv, hi.lt⟩
theorem RowU.shape {E : TypeId} {w : World} {B : Nat} {v : Value} {h : Int} {xs : List Int} {a b k : Int} (i : RowU E w B v h xs a b k) : ∃ g c, v = .agg #[.int .i64 h, .slice (some ⟨g, 0, none⟩) xs.length c, .int .i64 a, .int .i64 b, .int .i64 k] := by
  obtain ⟨vi, rfl, hi⟩ := i
  obtain ⟨g, c, rfl, _⟩ := hi.form
  exact ⟨g, c, rfl⟩
theorem RowU.form {E : TypeId} {w : World} {B : Nat} {v : Value} {h : Int} {xs : List Int} {a b k : Int} (i : RowU E w B v h xs a b k) : ∃ g c, v = .agg #[.int .i64 h, .slice (some ⟨g, 0, none⟩) xs.length c, .int .i64 a, .int .i64 b, .int .i64 k] ∧ xs.length < 1000000000 ∧ Ints w g 0 xs.length (fun i => xs.getD i 0) := by
  obtain ⟨vi, rfl, hi⟩ := i
  obtain ⟨g, c, rfl, _, _, _, _, I1, _, m1⟩ := hi.form
  exact ⟨g, c, rfl, m1, I1⟩

theorem five {α : Type} {cs : Array α} (h : cs.size = 5) : ∃ c0 c1 c2 c3 c4, cs = #[c0, c1, c2, c3, c4] := by
  obtain ⟨l⟩ := cs
  match l, h with
  | [c0, c1, c2, c3, c4], _ => exact ⟨c0, c1, c2, c3, c4, rfl⟩
theorem five' {α : Type} {l : List α} (h : l.length = 5) : ∃ c0 c1 c2 c3 c4, l = [c0, c1, c2, c3, c4] := by
  match l, h with
  | [c0, c1, c2, c3, c4], _ => exact ⟨c0, c1, c2, c3, c4, rfl⟩
theorem openIm' {H : Type} {enc : TypeId × Value → H} {P : Program} {w : World} {fuel : Nat} {t e : TypeId} {v : Value} {x : DataW H × List MemPlace} (ht : P.underlying t = some (.slice e)) (he : P.underlying e = some (.int .i64)) (hc : P.cellsOf e = 1)
    (h : DataW.trod enc P w 0 (fun _ => true) true fuel t [v] = some x) : ∃ (xs : List Int) (ad : Option Addr) (cap : Nat), v = .slice ad xs.length cap ∧ xs.length ≤ maxLen ∧ InI w (.slice ad xs.length cap) xs := by
  obtain ⟨xs, ad, cap, hv, hi⟩ := openI ht he hc h
  refine ⟨xs, ad, cap, hv, ?_, hi⟩
  rcases open_ints ht he hc h with ⟨hcs, _⟩ | ⟨a, len, cap', zs, hcs, _, hl, hm, hz, hx, hcell, hwz⟩
  all_goals
    simp at hcs
    rw [hv] at hcs
    simp only [Value.slice.injEq] at hcs
    omega
theorem openU {H : Type} {enc : TypeId × Value → H} {P : Program} {w : World} {t e : TypeId} {f0 f1 f2 f3 f4 : Field} {v : Value} {d : DataW H} {p : List MemPlace} (hs : P.underlying t = some (.struct #[f0, f1, f2, f3, f4])) (hone : oneCellFields P #[f0, f1, f2, f3, f4] = true) (hC : P.cellsOf t = 5)
    (h0 : P.underlying f0.type = some (.int .i64)) (h1 : P.underlying f1.type = some (.slice e)) (h2 : P.underlying f2.type = some (.int .i64)) (h3 : P.underlying f3.type = some (.int .i64)) (h4 : P.underlying f4.type = some (.int .i64)) (he : P.underlying e = some (.int .i64)) (hc : P.cellsOf e = 1)
    {r : Reach} {b0 : Nat} (hv : Value.okWide P w r b0 t v) (h : DataW.Trod enc P w 0 (fun _ => true) true t v d p) :
    ∃ (x0 : Int) (xs : List Int) (x2 x3 x4 : Int) (ad : Option Addr) (c : Nat), v = .agg #[.int .i64 x0, .slice ad xs.length c, .int .i64 x2, .int .i64 x3, .int .i64 x4] ∧ InU w (.agg #[.int .i64 x0, .slice ad xs.length c, .int .i64 x2, .int .i64 x3, .int .i64 x4]) x0 xs x2 x3 x4 := by
  obtain ⟨cs, rfl, hsz⟩ := okWide_struct hs hv
  obtain ⟨c0, c1, c2, c3, c4, rfl⟩ := five (hsz.trans hC)
  obtain ⟨fuel, hf⟩ := h
  obtain ⟨ys, n, _, _, _, hlen, hq⟩ := DataW.trod_struct hs hf
  obtain ⟨z0, z1, z2, z3, z4, rfl⟩ := five' (show ys.length = 5 from hlen)
  obtain ⟨o0, k0⟩ := hone_of hone 0 f0 rfl
  obtain ⟨o1, k1⟩ := hone_of hone 1 f1 rfl
  obtain ⟨o2, k2⟩ := hone_of hone 2 f2 rfl
  obtain ⟨o3, k3⟩ := hone_of hone 3 f3 rfl
  obtain ⟨o4, k4⟩ := hone_of hone 4 f4 rfl
  have t0 : DataW.trod enc P w 0 (fun _ => true) true n f0.type [c0] = some z0 := by simpa [Value.cells, o0, k0] using hq 0 f0 rfl
  have t1 : DataW.trod enc P w 0 (fun _ => true) true n f1.type [c1] = some z1 := by simpa [Value.cells, o1, k1] using hq 1 f1 rfl
  have t2 : DataW.trod enc P w 0 (fun _ => true) true n f2.type [c2] = some z2 := by simpa [Value.cells, o2, k2] using hq 2 f2 rfl
  have t3 : DataW.trod enc P w 0 (fun _ => true) true n f3.type [c3] = some z3 := by simpa [Value.cells, o3, k3] using hq 3 f3 rfl
  have t4 : DataW.trod enc P w 0 (fun _ => true) true n f4.type [c4] = some z4 := by simpa [Value.cells, o4, k4] using hq 4 f4 rfl
  obtain ⟨x0, e0, _, _⟩ := DataW.trod_int h0 t0
  obtain ⟨xs, ad, c, rfl, mi, ii⟩ := openIm' h1 he hc t1
  obtain ⟨x2, e2, _, _⟩ := DataW.trod_int h2 t2
  obtain ⟨x3, e3, _, _⟩ := DataW.trod_int h3 t3
  obtain ⟨x4, e4, _, _⟩ := DataW.trod_int h4 t4
  simp at e0 e2 e3 e4
  subst e0 e2 e3 e4
  exact ⟨x0, xs, x2, x3, x4, ad, c, rfl, ad, c, rfl, mi, ii⟩
end Go.Proofs.Ytjopeidmfgkhnaa
