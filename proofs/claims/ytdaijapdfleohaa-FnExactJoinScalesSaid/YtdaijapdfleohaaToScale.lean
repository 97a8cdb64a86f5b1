/-
  toScale gives a copy of a scale in new memory; how a scale among a call's arguments is opened. Condition: fewer than 1000000000 integers in each list.
-/
import Derived.Test.YtdaijapdfleohaaProg
import Derived.Test.YtdaijapdfleohaaToInt64S
import Derived.Test.YtdaijapdfleohaaScaleO
import Derived.Test.YtdaijapdfleohaaOpen
namespace Go.Proofs.Ytdaijapdfleohaa
open Go.ChangeShapes Go.WideShapes Go.RowKit Go.Joins Go.Deep
set_option linter.unusedVariables false

theorem openIm {H : Type} {enc : TypeId × Value → H} {P : Program} {w : World} {fuel : Nat} {t e : TypeId} {v : Value} {x : DataW H × List MemPlace} (ht : P.underlying t = some (.slice e)) (he : P.underlying e = some (.int .i64)) (hc : P.cellsOf e = 1)
    (h : DataW.trod enc P w 0 (fun _ => true) true fuel t [v] = some x) : ∃ (xs : List Int) (ad : Option Addr) (cap : Nat), v = .slice ad xs.length cap ∧ xs.length ≤ maxLen ∧ InI w (.slice ad xs.length cap) xs := by
  obtain ⟨xs, ad, cap, hv, hi⟩ := openI ht he hc h
  refine ⟨xs, ad, cap, hv, ?_, hi⟩
  rcases open_ints ht he hc h with ⟨hcs, _⟩ | ⟨a, len, cap', zs, hcs, _, hl, hm, hz, hx, hcell, hwz⟩
  · simp at hcs
    rw [hv] at hcs
    simp only [Value.slice.injEq] at hcs
    omega
  · simp at hcs
    rw [hv] at hcs
    simp only [Value.slice.injEq] at hcs
    omega
theorem openS {H : Type} {enc : TypeId × Value → H} {P : Program} {w : World} {t e : TypeId} {f0 f1 : Field} {v : Value} {d : DataW H} {p : List MemPlace} (hs : P.underlying t = some (.struct #[f0, f1])) (hone : oneCellFields P #[f0, f1] = true) (hC : P.cellsOf t = 2)
    (h0 : P.underlying f0.type = some (.slice e)) (h1 : P.underlying f1.type = some (.slice e)) (he : P.underlying e = some (.int .i64)) (hc : P.cellsOf e = 1) {r : Reach} {b0 : Nat} (hv : Value.okWide P w r b0 t v) (h : DataW.Trod enc P w 0 (fun _ => true) true t v d p) :
    ∃ (b q : List Int) (ab ar : Option Addr) (cb cr : Nat), v = .agg #[.slice ab b.length cb, .slice ar q.length cr] ∧ InS w (.agg #[.slice ab b.length cb, .slice ar q.length cr]) b q := by
  obtain ⟨v0, v1, y0, y1, n, rfl, _, _, t0, t1⟩ := open_agg2 hs hone hC hv h
  obtain ⟨b, ab, cb, rfl, mb, ib⟩ := openIm h0 he hc t0
  obtain ⟨q, ar, cr, rfl, mr, ir⟩ := openIm h1 he hc t1
  exact ⟨b, q, ab, ar, cb, cr, rfl, ab, cb, ar, cr, rfl, mb, mr, ib, ir⟩

theorem RowI.mono' {E : TypeId} {w : World} {B B' : Nat} {v : Value} {xs : List Int} (h : RowI E w B v xs) (hB : B' ≤ B) : RowI E w B' v xs := ⟨h.1.mono hB, h.2⟩
set_option maxHeartbeats 400000 in
theorem to_s {w : World} {v : Value} {b r : List Int} (h : InS w v b r) (hn : b.length < 1000000000 ∧ r.length < 1000000000) :
    Calls Try.prog 8 #[v] w (fun e w' => ∃ v, e = .returned v ∧ RowS 2 w' w.heap.size v b r ∧ Below w.heap.size w w') := by
  obtain ⟨ab, cb, ar, cr, rfl, _, _, ib, ir⟩ := h
  obtain ⟨mb, mr⟩ := hn
  generalize hvb : Value.slice ab b.length cb = vb at *
  generalize hvr : Value.slice ar r.length cr = vr at *
  clear hvb hvr
  go_enter Try.func8, Try.ntmps8
  have bA : Below w.heap.size w (((w.alloc (.cells #[vb, vr] 24)).alloc (.cells #[.slice none 0 0, .slice none 0 0] 29)).alloc (.cells #[.slice none 0 0, .slice none 0 0] 29)) := by go_grown
  go_wp2_with fail
  refine (to_i (ib.below bA) mb).mono ?_
  rintro e w1 ⟨u, rfl, hu, hb⟩
  obtain ⟨g1, c1, rfl, _, q1, _⟩ := hu.form
  have hz : w.heap.size + 3 ≤ w1.heap.size := by have := hb.size; simp at this; omega
  have k0 : w1.cell? ⟨w.heap.size + 1 + 1, 0, none⟩ = some (.slice none 0 0) := Below.cellOf hb rfl (by simp [go_sem])
  have k1 : w1.cell? ⟨w.heap.size + 1 + 1, 1, none⟩ = some (.slice none 0 0) := Below.cellOf hb rfl (by simp [go_sem])
  have k2 : w1.cell? ⟨w.heap.size, 1, none⟩ = some vr := Below.cellOf hb rfl (by simp [go_sem])
  have f0 : w1.frozen? ⟨w.heap.size + 1 + 1, 0, none⟩ = false := (hb.frozen (p := ⟨w.heap.size + 1 + 1, 0, none⟩) (by simp)).trans (by simp [go_sem])
  have f1 : w1.frozen? ⟨w.heap.size + 1 + 1, 1, none⟩ = false := (hb.frozen (p := ⟨w.heap.size + 1 + 1, 1, none⟩) (by simp)).trans (by simp [go_sem])
  have HK5 : Hid (w1.cell? ⟨w.heap.size + 1, 0, none⟩ = some (.slice none 0 0)) := Below.cellOf hb rfl (by simp [go_sem])
  have HK6 : Hid (w1.cell? ⟨w.heap.size + 1, 1, none⟩ = some (.slice none 0 0)) := Below.cellOf hb rfl (by simp [go_sem])
  have HF5 : Hid (w1.frozen? ⟨w.heap.size + 1, 0, none⟩ = false) := (hb.frozen (p := ⟨w.heap.size + 1, 0, none⟩) (by simp)).trans (by simp [go_sem])
  have HF6 : Hid (w1.frozen? ⟨w.heap.size + 1, 1, none⟩ = false) := (hb.frozen (p := ⟨w.heap.size + 1, 1, none⟩) (by simp)).trans (by simp [go_sem])
  have C1 : Below w.heap.size w w1 := bnext bA hb
  have HU := Lib.hid hu
  have HF1 := Lib.hid f1
  have HK1 := Lib.hid k1
  clear hu f1 k1
  go_wp2_with fail
  have bS : Below w.heap.size w (w1.setCell ⟨w.heap.size + 1 + 1, 0, none⟩ (.slice (some ⟨g1, 0, none⟩) b.length c1)) := C1.setCell (by simp; omega) _
  refine (to_i (ir.below bS) mr).mono ?_
  rintro e w2 ⟨u2, rfl, hu2, hb2⟩
  obtain ⟨g2, c2, rfl, _, q2, _⟩ := hu2.form
  have bq : ∀ j v, Only (w.heap.size + 2) (w.heap.size + 3) w1 (w1.setCell ⟨w.heap.size + 1 + 1, j, none⟩ v) := fun j v => (Only.refl _ _ _).setCell (by simp) (by simp) _
  have hul : ∀ k, (Value.slice (some ⟨g1, 0, none⟩) b.length c1).ownBlock = some k → k < w.heap.size + 2 ∨ w.heap.size + 3 ≤ k := fun k hk => by have := (HU.out.lt k hk).1; simp at this; omega
  have hu1' := (HU.out.only (bq 0 _) hul).below hb2
  have hz2 : w.heap.size + 3 ≤ w2.heap.size := by have := hb2.size; simp at this; omega
  have k3 : w2.cell? ⟨w.heap.size + 1 + 1, 0, none⟩ = some (.slice (some ⟨g1, 0, none⟩) b.length c1) := Below.cellOf hb2 rfl (by simp [go_sem, k0])
  have k4 : w2.cell? ⟨w.heap.size + 1 + 1, 1, none⟩ = some (.slice none 0 0) := Below.cellOf hb2 rfl (by simp [go_sem, HK1.out])
  have f2 : w2.frozen? ⟨w.heap.size + 1 + 1, 1, none⟩ = false := (hb2.frozen (p := ⟨w.heap.size + 1 + 1, 1, none⟩) (by simp; omega)).trans (by simp [go_sem, HF1.out])
  have k5 : w2.cell? ⟨w.heap.size + 1, 0, none⟩ = some (.slice none 0 0) := Below.cellOf hb2 rfl (by simp [go_sem, HK5.out])
  have k6 : w2.cell? ⟨w.heap.size + 1, 1, none⟩ = some (.slice none 0 0) := Below.cellOf hb2 rfl (by simp [go_sem, HK6.out])
  have f5 : w2.frozen? ⟨w.heap.size + 1, 0, none⟩ = false := (hb2.frozen (p := ⟨w.heap.size + 1, 0, none⟩) (by simp; omega)).trans (by simp [go_sem, HF5.out])
  have f6 : w2.frozen? ⟨w.heap.size + 1, 1, none⟩ = false := (hb2.frozen (p := ⟨w.heap.size + 1, 1, none⟩) (by simp; omega)).trans (by simp [go_sem, HF6.out])
  have C2 : Below w.heap.size w w2 := bS.trans (hb2.mono (by simp; omega))
  have hlt1 : ∀ k, (Value.slice (some ⟨g1, 0, none⟩) b.length c1).ownBlock = some k → (Value.slice (some ⟨g2, 0, none⟩) r.length c2).ownBlock = some k → False := fun k h1 h2 => by have := (HU.out.lt k h1).2; have := (hu2.lt k h2).1; simp at this; omega
  have HU2 := Lib.hid hu2
  have HA := Lib.hid hlt1
  have HU1 := Lib.hid hu1'
  have HL := Lib.hid hul
  clear hu2 hlt1 hu1' hul bq
  go_wp2_with fail
  refine bodyPost_ret (v := .agg #[.slice (some ⟨g1, 0, none⟩) b.length c1, .slice (some ⟨g2, 0, none⟩) r.length c2]) (by simp [results, Try.results8, go_sem, k5, k6]) rfl ?_
  have bW : ∀ u1 u2 u3, Only (w.heap.size + 1) (w.heap.size + 3) w2 (((w2.setCell ⟨w.heap.size + 1 + 1, 1, none⟩ u1).setCell ⟨w.heap.size + 1, 0, none⟩ u2).setCell ⟨w.heap.size + 1, 1, none⟩ u3) := fun u1 u2 u3 => (((Only.refl _ _ _).setCell (by simp) (by simp) _).setCell (by simp) (by simp) _).setCell (by simp) (by simp) _
  refine ⟨_, rfl, ⟨_, _, rfl, (HU1.out.only (bW _ _ _) (fun k hk => ?_)).mono' (by simp; omega), (HU2.out.only (bW _ _ _) (fun k hk => ?_)).mono' (by simp; omega), HA.out⟩, ((C2.setCell (by simp; omega) _).setCell (by simp) _).setCell (by simp) _⟩
  · have := (HU1.out.lt k hk).1; simp at this; omega
  · have := (HU2.out.lt k hk).1; simp at this; omega
end Go.Proofs.Ytdaijapdfleohaa
