/-
  How slices of structs of integers among a call's arguments are opened. No program in sight. No condition.
-/
import Derived.Test.YtcpjbnfmkhaadaaOpen
import Derived.Test.YtcpjbnfmkhaadaaRec
import Derived.Deep.Slices
import Derived.Deep.Fields
import Derived.ChangeSame
namespace Go.Proofs.Ytcpjbnfmkhaadaa
open Go.ChangeShapes Go.WideShapes Go.RowKit Go.Deep
set_option linter.unusedVariables false

def isI64 : Option TypeDesc → Bool
  | some (.int .i64) => true
  | _ => false
theorem isI64_is {o : Option TypeDesc} (h : isI64 o = true) : o = some (.int .i64) := by
  unfold isI64 at h
  split at h
  · rfl
  · cases h
def cellInt : Option Value → Int
  | some (.int _ z) => z
  | _ => 0
theorem openRec {H : Type} {enc : TypeId × Value → H} {P : Program} {w : World} {t e : TypeId} {fs : Array Field} {v : Value} {d : DataW H} {p : List MemPlace} (ht : P.underlying t = some (.slice e)) (he : P.underlying e = some (.struct fs))
    (hone : oneCellFields P fs = true) (hC : P.cellsOf e = fs.size) (hpos : 0 < fs.size) (hint : (List.range fs.size).all (fun j => match fs[j]? with | some f => isI64 (P.underlying f.type) | none => false) = true)
    {r : Reach} {b0 : Nat} (hv : Value.okWide P w r b0 t v) (h : DataW.Trod enc P w 0 (fun _ => true) true t v d p) :
    ∃ (X : Rec) (ad : Option Addr) (cap : Nat), v = .slice ad X.length cap ∧ InR fs.size w (.slice ad X.length cap) X := by
  obtain ⟨a0, len0, cap0, rfl⟩ := okWide_slice ht hv
  obtain ⟨fuel, hf⟩ := h
  rcases open_slice ht (by simpa [Value.cells] using hf) with ⟨hcs, _⟩ | ⟨a, len, cap, m, n, D, Pl, hcs, hb, hl, hm, hmm, hx, hi⟩
  · simp at hcs
    obtain ⟨rfl, rfl, rfl⟩ := hcs
    exact ⟨⟨0, fun _ => 0⟩, none, 0, rfl, none, 0, rfl, Nat.zero_le _, fun h => absurd rfl h⟩
  · simp at hcs
    obtain ⟨rfl, rfl, rfl⟩ := hcs
    have hmc : m = cap0 := by simpa using hmm
    obtain ⟨b, off, spot⟩ := a
    have cell : ∀ i, i < len0 → ∀ j, j < fs.size → ∃ z, w.cell? ((⟨b, off, spot⟩ : Addr).add (i * fs.size + j)) = some (.int .i64 z) := by
      intro i hil j hj
      obtain ⟨cs', hc, ht'⟩ := hi i (by omega)
      rw [hC] at hc
      obtain ⟨ys, n', hn', hy, hlen, hyl, hfl⟩ := DataW.trod_struct he ht'
      obtain ⟨_, hcl, hat⟩ := World.cells?_some hc
      obtain ⟨f, hfj⟩ : ∃ f, fs[j]? = some f := ⟨_, Array.getElem?_eq_getElem hj⟩
      have hin := List.all_eq_true.1 hint j (List.mem_range.2 hj)
      rw [hfj] at hin
      obtain ⟨ho, hk⟩ := hone_of hone j f hfj
      have h1 := hfl j f hfj
      rw [ho, hk] at h1
      have hone' : (cs'.drop j).take 1 = [cs'[j]'(by omega)] := by
        rw [List.drop_eq_getElem_cons (by omega)]; rfl
      rw [hone'] at h1
      have hys : ys[j]? = some (ys[j]'(by omega)) := List.getElem?_eq_getElem (by omega)
      obtain ⟨z, hz, _, _⟩ := DataW.trod_int (isI64_is hin) (h1.trans hys)
      refine ⟨z, ?_⟩
      rw [← Go.Deep.add_add, hat j hj, List.getElem?_eq_getElem (by omega)]
      simp at hz
      rw [hz]
    refine ⟨⟨len0, fun q => cellInt (w.cell? ((⟨b, off, spot⟩ : Addr).add q))⟩, some ⟨b, off, spot⟩, cap0, rfl, some ⟨b, off, spot⟩, cap0, rfl, by show len0 ≤ maxLen; omega, fun hne => ?_⟩
    have hne' : len0 ≠ 0 := hne
    obtain ⟨z0, hz0⟩ := cell 0 (by omega) 0 hpos
    have hspot : spot = none := by simpa [Addr.add] using World.cell?_spot hz0
    subst hspot
    refine ⟨b, off, rfl, fun i hi' j hj => ?_⟩
    obtain ⟨z, hzz⟩ := cell i hi' j hj
    have e1 : (⟨b, off, none⟩ : Addr).add (i * fs.size + j) = ⟨b, off + i * fs.size + j, none⟩ := by unfold Addr.add; split <;> simp_all [Nat.add_assoc]
    show _ = some (Value.int .i64 (cellInt (w.cell? ((⟨b, off, none⟩ : Addr).add (i * fs.size + j)))))
    rw [hzz, ← e1, hzz]; rfl
end Go.Proofs.Ytcpjbnfmkhaadaa
