/-
  The law of BalancesShared over the second program: it returns true, or tells. No condition but the oracle.
  What an own block of the lone law's memory is in company. No condition.
  What BalancesShared's told call gives of the company's memory. No condition.
  The lone law's memory: the letter box, the oracle, and a frozen copy of what the law is handed; a law, whole, from there. No condition.
-/
import Derived.Test.YtpigjhagdpeofaaBa2
import Derived.Test.YtpigjhagdpeofaaBa11
import Derived.Test.YtpigjhagdpeofaaBa12
import Derived.Test.YtpigjhagdpeofaaBa14
import Derived.Deep.RegionHeld3
import Derived.Test.YtpigjhagdpeofaaBa3
import Derived.Conc.LeavingOf

namespace Go.Proofs.Ytpigjhagdpeofaa
open Go.ChangeShapes Go.WideShapes Go.ChangeAt Go.RowKit Go.Proofs.Ytpigjhagdpeofaa.Sim
set_option linter.unusedVariables false
theorem RowI.mono {E : TypeId} {w : World} {B B' : Nat} {v : Value} {xs : List Int} (h : RowI E w B v xs) (hB : B' ≤ B) : RowI E w B' v xs := ⟨h.1.mono hB, h.2⟩
theorem RowF.mono {k : Nat} {w : World} {B B' : Nat} {v : Value} {X : Rec} (h : RowF k w B v X) (hB : B' ≤ B) : RowF k w B' v X := by
  obtain ⟨⟨g, h1, h2, h3⟩, h4⟩ := h
  exact ⟨⟨g, h1, Nat.le_trans hB h2, h3⟩, h4⟩
set_option maxHeartbeats 4000000 in
theorem walk_balSh (x0 : Rec) (ad0 : Option Addr) (c0 : Nat) (x1 : List Int) (ad1 : Option Addr) (c1 : Nat) (x2 : Int) (w : World) (i0 : InR 4 w (.slice ad0 x0.length c0) x0) (i1 : InI w (.slice ad1 x1.length c1) x1) (h4 : 3 < w.heap.size) (hS : BalSh_r1 x0 x1.length (fun i => x1.getD i 0) x2 = true → Sat2 x1.length (BalSh_F x0 fun i => x1.getD i 0) w) :
    Calls Sq.prog 3 #[.slice ad0 x0.length c0, .slice ad1 x1.length c1, .int .i64 x2] w fun e w' => e = .returned (.bool true) ∨ Told (PreB w.heap.size x1.length (BalSh_F x0 fun i => x1.getD i 0)) e w' := by
  rcases Int.lt_or_le 1048576 (x1.length : Int) with hl1 | hl1
  · go_enter Sq.func3, Sq.ntmps3
    go_wp2_with fail
    go_ret
    exact Or.inl rfl
  go_enter Sq.func3, Sq.ntmps3
  rcases Int.lt_or_le (1048576) (x0.length : Int) with hs0 | hs0
  · go_wp2_with fail
    refine (sz_e_no i0 hs0 (by omega)).mono ?_
    rintro e wz ⟨rfl, bz⟩
    go_wp2_with fail
    go_ret
    exact Or.inl rfl
  go_wp2_with fail
  refine (sz_e_yes i0 hs0 (by omega)).mono ?_
  rintro e w1 ⟨rfl, b1⟩
  have C1 := b1
  go_wp2_with fail
  refine (to_e (i0.below C1) (by omega)).mono ?_
  rintro e w2 ⟨v_t1, rfl, o_t1, b2⟩
  have C2 := bnext C1 b2
  have lt_t1 := Lib.hid o_t1.lt
  go_wp2_with fail
  refine (to_i (i1.below C2) (by omega)).mono ?_
  rintro e w3 ⟨v_t2, rfl, o_t2, b3⟩
  have C3 := bnext C2 b3
  replace o_t1 := o_t1.below b3
  have lt_t2 := Lib.hid o_t2.lt
  go_wp2_with fail
  refine (BalSh_spec o_t1 o_t2 (k := x2)).mono ?_
  rintro e w4 ⟨v_w0, rfl, o_w0, ln_w0, b4⟩
  have C4 := bnext C3 b4
  replace o_t1 := o_t1.below b4
  replace o_t2 := o_t2.below b4
  have lt_w0 := Lib.hid o_w0.lt
  go_wp2_with fail
  refine (to_eF (i0.below C4) (by omega)).mono ?_
  rintro e w5 ⟨v_t3, rfl, o_t3, b5⟩
  have C5 := bnext C4 b5
  replace o_w0 := o_w0.below b5
  have lt_t3 := Lib.hid o_t3.1.lt
  go_wp2_with fail
  refine (to_i (i1.below C5) (by omega)).mono ?_
  rintro e w6 ⟨v_t4, rfl, o_t4, b6⟩
  have C6 := bnext C5 b6
  replace o_w0 := o_w0.below b6
  replace o_t3 := o_t3.below b6
  have lt_t4 := Lib.hid o_t4.lt
  go_wp2_with fail
  refine (BalSh_impl (B := w.heap.size) (k := x2) (o_t3.mono C4.size) (o_t4.mono C5.size) h4 (fun h => (hS h).below C6)).mono ?_
  intro e w7 hh
  rcases hh.symm with ht | ⟨v_g0, rfl, o_g0, ln_g0, b7⟩
  · obtain ⟨x, ch, va, vb, vc, e0, rfl, q1, q2, q3⟩ := ht
    exact ⟨rfl, Or.inr ⟨x, ch, va, vb, vc, e0, rfl, q1, q2, q3⟩⟩
  have C7 := bnext C6 b7
  replace o_w0 := o_w0.below b7
  replace o_t3 := o_t3.below b7
  replace o_t4 := o_t4.below b7
  have lt_g0 := Lib.hid o_g0.lt
  go_wp2_with fail
  refine (eq_i o_g0 o_w0 (by omega)).mono ?_
  rintro e w8 ⟨rfl, b8⟩
  have C8 := bnext C7 b8
  replace o_w0 := o_w0.below b8
  replace o_t3 := o_t3.below b8
  replace o_t4 := o_t4.below b8
  replace o_g0 := o_g0.below b8
  go_wp2_with fail
  refine (to_e (i0.below C8) (by omega)).mono ?_
  rintro e w9 ⟨v_t5, rfl, o_t5, b9⟩
  have C9 := bnext C8 b9
  replace o_w0 := o_w0.below b9
  replace o_t3 := o_t3.below b9
  replace o_t4 := o_t4.below b9
  replace o_g0 := o_g0.below b9
  have lt_t5 := Lib.hid o_t5.lt
  go_wp2_with fail
  refine (eq_e o_t3.1 o_t5 (by omega)).mono ?_
  rintro e w10 ⟨rfl, b10⟩
  have C10 := bnext C9 b10
  replace o_w0 := o_w0.below b10
  replace o_t3 := o_t3.below b10
  replace o_t4 := o_t4.below b10
  replace o_g0 := o_g0.below b10
  replace o_t5 := o_t5.below b10
  go_wp2_with fail
  refine (to_i (i1.below C10) (by omega)).mono ?_
  rintro e w11 ⟨v_t6, rfl, o_t6, b11⟩
  have C11 := bnext C10 b11
  replace o_w0 := o_w0.below b11
  replace o_t3 := o_t3.below b11
  replace o_t4 := o_t4.below b11
  replace o_g0 := o_g0.below b11
  have lt_t6 := Lib.hid o_t6.lt
  go_wp2_with fail
  refine (eq_i o_t4.own o_t6.own (by omega)).mono ?_
  rintro e w12 ⟨rfl, b12⟩
  have C12 := bnext C11 b12
  replace o_w0 := o_w0.below b12
  replace o_t3 := o_t3.below b12
  replace o_t4 := o_t4.below b12
  replace o_g0 := o_g0.below b12
  replace o_t6 := o_t6.below b12
  go_wp2_with fail
  refine (mark_e _ o_t3.1 (by omega) (by omega) (by omega)).mono ?_
  rintro e w13 ⟨rfl, q_x0, n13⟩
  have m13 := n13 w4.heap.size w5.heap.size lt_t3.out
  have C13 := C12.trans (m13.toBelow C4.size C12.size)
  replace o_w0 := o_w0.only m13 (fun k hk => .inl (by have := (lt_w0.out k hk).2; omega))
  replace o_t4 := o_t4.only m13 (fun k hk => .inr (by have := (lt_t4.out k hk).1; omega))
  replace o_g0 := o_g0.only m13 (fun k hk => .inr (by have := (lt_g0.out k hk).1; have := b6.size; omega))
  clear o_t3
  go_wp2_with fail
  refine (mark_i _ o_t4.own (by omega) (by omega) (by omega)).mono ?_
  rintro e w14 ⟨rfl, q_x1, n14⟩
  have m14 := n14 w5.heap.size w6.heap.size lt_t4.out
  have C14 := C13.trans (m14.toBelow C5.size C13.size)
  replace o_w0 := o_w0.only m14 (fun k hk => .inl (by have := (lt_w0.out k hk).2; have := b5.size; omega))
  replace q_x0 := q_x0.only m14 (fun k hk => .inl (by have := (lt_t3.out k hk).2; omega))
  replace o_g0 := o_g0.only m14 (fun k hk => .inr (by have := (lt_g0.out k hk).1; omega))
  clear o_t4
  go_wp2_with fail
  refine (eq_i o_g0 o_w0 (by omega)).mono ?_
  rintro e w15 ⟨rfl, b15⟩
  have C15 := bnext C14 b15
  replace o_w0 := o_w0.below b15
  replace q_x0 := q_x0.below b15
  replace q_x1 := q_x1.below b15
  replace o_g0 := o_g0.below b15
  go_wp2_with fail
  refine (mark_i _ o_g0 (by omega) (by omega) (by omega)).mono ?_
  rintro e w16 ⟨rfl, q_g0, n16⟩
  have m16 := n16 w6.heap.size w7.heap.size lt_g0.out
  have C16 := C15.trans (m16.toBelow C6.size C15.size)
  replace o_w0 := o_w0.only m16 (fun k hk => .inl (by have := (lt_w0.out k hk).2; have := b5.size; have := b6.size; omega))
  replace q_x0 := q_x0.only m16 (fun k hk => .inl (by have := (lt_t3.out k hk).2; have := b6.size; omega))
  replace q_x1 := q_x1.only m16 (fun k hk => .inl (by have := (lt_t4.out k hk).2; omega))
  clear o_g0
  go_wp2_with fail
  refine (held_i _ q_g0 (by omega) (by omega) (by omega)).mono ?_
  rintro e w17 ⟨rfl, b17⟩
  have C17 := bnext C16 b17
  replace o_w0 := o_w0.below b17
  replace q_x0 := q_x0.below b17
  replace q_x1 := q_x1.below b17
  replace q_g0 := q_g0.below b17
  go_wp2_with fail
  refine (to_eF (i0.below C17) (by omega)).mono ?_
  rintro e w18 ⟨v_t7, rfl, o_t7, b18⟩
  have C18 := bnext C17 b18
  replace o_w0 := o_w0.below b18
  replace q_x0 := q_x0.below b18
  replace q_x1 := q_x1.below b18
  replace q_g0 := q_g0.below b18
  have lt_t7 := Lib.hid o_t7.1.lt
  go_wp2_with fail
  refine (to_i (i1.below C18) (by omega)).mono ?_
  rintro e w19 ⟨v_t8, rfl, o_t8, b19⟩
  have C19 := bnext C18 b19
  replace o_w0 := o_w0.below b19
  replace q_x0 := q_x0.below b19
  replace q_x1 := q_x1.below b19
  replace q_g0 := q_g0.below b19
  replace o_t7 := o_t7.below b19
  have lt_t8 := Lib.hid o_t8.lt
  go_wp2_with fail
  refine (BalSh_impl (B := w.heap.size) (k := x2) (o_t7.mono C17.size) (o_t8.mono C18.size) h4 (fun h => (hS h).below C19)).mono ?_
  intro e w20 hh
  rcases hh.symm with ht | ⟨v_h0, rfl, o_h0, ln_h0, b20⟩
  · obtain ⟨x, ch, va, vb, vc, e0, rfl, q1, q2, q3⟩ := ht
    exact ⟨rfl, Or.inr ⟨x, ch, va, vb, vc, e0, rfl, q1, q2, q3⟩⟩
  have C20 := bnext C19 b20
  replace o_w0 := o_w0.below b20
  replace q_x0 := q_x0.below b20
  replace q_x1 := q_x1.below b20
  replace q_g0 := q_g0.below b20
  replace o_t7 := o_t7.below b20
  replace o_t8 := o_t8.below b20
  have lt_h0 := Lib.hid o_h0.lt
  go_wp2_with fail
  refine (eq_i o_h0 o_w0 (by omega)).mono ?_
  rintro e w21 ⟨rfl, b21⟩
  have C21 := bnext C20 b21
  replace o_w0 := o_w0.below b21
  replace q_x0 := q_x0.below b21
  replace q_x1 := q_x1.below b21
  replace q_g0 := q_g0.below b21
  replace o_h0 := o_h0.below b21
  go_wp2_with fail
  refine (held_i _ q_g0 (by omega) (by omega) (by omega)).mono ?_
  rintro e w22 ⟨rfl, b22⟩
  have C22 := bnext C21 b22
  replace o_w0 := o_w0.below b22
  replace q_x0 := q_x0.below b22
  replace q_x1 := q_x1.below b22
  replace q_g0 := q_g0.below b22
  replace o_h0 := o_h0.below b22
  go_wp2_with fail
  go_ret
  exact Or.inl rfl


end Go.Proofs.Ytpigjhagdpeofaa

namespace Go.Proofs.Ytpigjhagdpeofaa.Sim
open Go Go.Conc
set_option linter.unusedVariables false
section
variable {X : Ctx} {r : Ren} {wl wc : World} {ok : FuncId → Bool}
theorem VRel.slice_inv {b l k : Nat} {v : Value} (h : VRel ok r (.slice (some ⟨b, 0, none⟩) l k) v) : ∃ c s, r b = some (c, s) ∧ v = .slice (some ⟨c, s, none⟩) l k := by
  cases h with
  | flat h => cases h
  | slice h => exact ⟨_, _, h, rfl⟩
theorem VRel.ptr_inv {b : Nat} {v : Value} (h : VRel ok r (.pointer (some ⟨b, 0, none⟩)) v) : ∃ c s, r b = some (c, s) ∧ v = .pointer (some ⟨c, s, none⟩) := by
  cases h with
  | flat h => cases h
  | ptr h => exact ⟨_, _, h, rfl⟩
theorem VRel.fun_inv {f : FuncId} {cs : Array Value} {v : Value} (h : VRel ok r (.func (.func f) #[] cs) v) : ∃ ds, ARel ok r cs ds ∧ v = .func (.func f) #[] ds := by
  cases h with
  | flat h => cases h
  | @func f fs gs cs ds hf h1 h2 h3 h4 =>
    obtain rfl : gs = #[] := Array.eq_empty_of_size_eq_zero h1.symm
    exact ⟨ds, ⟨h3, h4⟩, rfl⟩
theorem ARel.one {x : Value} {ds : Array Value} (h : ARel ok r #[x] ds) : ∃ y, ds = #[y] ∧ VRel ok r x y := by
  obtain ⟨l⟩ := ds
  match l, h.1 with
  | [y], _ => exact ⟨y, rfl, h.2 0 x y rfl rfl⟩
theorem ARel.two {x x2 : Value} {ds : Array Value} (h : ARel ok r #[x, x2] ds) : ∃ y y2, ds = #[y, y2] ∧ VRel ok r x y ∧ VRel ok r x2 y2 := by
  obtain ⟨l⟩ := ds
  match l, h.1 with
  | [y, y2], _ => exact ⟨y, y2, rfl, h.2 0 x y rfl rfl, h.2 1 x2 y2 rfl rfl⟩
theorem WRel.ownCell (hw : WRel X r wl wc) {b c : Nat} (h : r b = some (c, 0)) {i : Nat} {v : Value} (hv : wl.cell? ⟨b, i, none⟩ = some v) : NP v ∧ ∃ y, wc.cell? ⟨c, i, none⟩ = some y ∧ VRel X.ok r v y := by
  obtain ⟨cs, e, fz, h1, h2⟩ := (hw.obj b c 0 h).ex
  simp only [World.cell?, h1, Option.isSome_none, Bool.false_eq_true, if_false] at hv
  obtain ⟨np, cs', e', fz', h3, _, y, hy, hr⟩ := h2 i v hv
  refine ⟨np, y, ?_, hr⟩
  rw [Nat.zero_add] at hy
  simp only [World.cell?, h3, Option.isSome_none, Bool.false_eq_true, if_false]
  exact hy
theorem WRel.ownInt (hw : WRel X r wl wc) {b c : Nat} (h : r b = some (c, 0)) {i : Nat} {k : IntKind} {n : Int} (hv : wl.cell? ⟨b, i, none⟩ = some (.int k n)) : wc.cell? ⟨c, i, none⟩ = some (.int k n) := by
  obtain ⟨_, y, hy, hr⟩ := hw.ownCell h hv
  rw [hr.int_inv] at hy
  exact hy
/-- What Sq.Read asks of a row of which so many cells are known. -/
theorem read_row {w1 : World} {c m : Nat} {l : List Nat} {D : Nat → Prop} {g : Nat → Value} (hc : c < w1.heap.size) (h : ∀ i, i < m → w1.cell? ⟨c, i, none⟩ = some (g i)) (hg : ∀ i, i < m → NP (g i) ∧ VRel (Sq.mem l) (Sq.ren D) (g i) (g i)) :
    ∃ o, w1.heap[c]? = some o ∧ (m = 0 ∨ ∃ cs e fz, o = .cells cs e fz ∧ ∀ (i : Nat) x, i < m → cs[i]? = some x → NP x ∧ VRel (Sq.mem l) (Sq.ren D) x x) := by
  refine ⟨_, Array.getElem?_eq_getElem hc, ?_⟩
  by_cases h0 : m = 0
  · exact .inl h0
  refine .inr ?_
  have h1 := h 0 (by omega)
  unfold World.cell? at h1
  rw [show ((⟨c, 0, none⟩ : Addr).block) = c from rfl, Array.getElem?_eq_getElem hc] at h1
  generalize he : w1.heap[c] = o at h1
  cases o with
  | cells cs e fz =>
    refine ⟨cs, e, fz, rfl, fun i x hi hx => ?_⟩
    have h2 := h i hi
    simp only [World.cell?, Array.getElem?_eq_getElem hc, he, Option.isSome_none, Bool.false_eq_true, if_false] at h2
    rw [h2] at hx
    cases hx
    exact hg i hi
  | _ => cases h1
/-- The told call's memory, but for the letter box. -/
theorem panW_cell {va vb vc : Value} {U : Nat → Question → Nat} {K b i : Nat} (hb : b < wl.heap.size) (h2 : b ≠ 2) : (Sq.panW va vb vc (tp wl U K)).cell? ⟨b, i, none⟩ = wl.cell? ⟨b, i, none⟩ := by
  unfold World.cell?
  rw [show (Sq.panW va vb vc (tp wl U K)).heap[b]? = wl.heap[b]? from Sq.panW_old (w := tp wl U K) hb h2]
end
end Go.Proofs.Ytpigjhagdpeofaa.Sim

namespace Go.Proofs.Ytpigjhagdpeofaa
open Go.RowKit Go.Proofs.Ytpigjhagdpeofaa.Sim
set_option linter.unusedVariables false
set_option maxHeartbeats 1600000 in
theorem preB_ok {n N0 : Nat} {F : Nat → Int} {hl : List Obj} {r0 : Ren} (hN : (XL n F hl r0).n0 ≤ N0) : PreOK (XL n F hl r0) n F (PreB N0 n F) := by
  intro r wl wc va vb vc va' vb' vc' U K hw ha hb hc hpre
  have h4 : 4 ≤ (XL n F hl r0).n0 := by
    show 4 ≤ (Sq.h (letter :: orc n F :: hl)).size
    simp [Sq.h]
  obtain ⟨gl, cl, k, m, g, p, f, L, rfl, rfl, k0, k8, rfl, n1, n2, n3, hL, hbox, hI, hfu, hent, hF, _⟩ := hpre
  obtain ⟨gl', s1, hgl, rfl⟩ := ha.slice_inv
  obtain rfl := hb.int_inv
  obtain ⟨ds, hds, rfl⟩ := hc.fun_inv
  obtain ⟨y, rfl, hy⟩ := hds.one
  obtain ⟨p', s2, hp, rfl⟩ := hy.ptr_inv
  obtain rfl := hw.sh gl gl' s1 (by omega) hgl
  obtain rfl := hw.sh p p' s2 (by omega) hp
  have hplt := (hw.dom _ _ hp).1
  have hgllt := (hw.dom _ _ hgl).1
  have hbox' : wl.cell? ⟨p, 0, none⟩ = some (.slice (some ⟨g, 0, none⟩) m m) := by
    have hb1 : (Sq.panW (.slice (some ⟨gl, 0, none⟩) n cl) (.int .i64 (k : Nat)) (.func (.func 34) #[] #[.pointer (some ⟨p, 0, none⟩)]) (Sim.tp wl U K)).cell? ⟨p, 0, none⟩ = some (.slice (some ⟨g, 0, none⟩) m m) := by
      simp only [World.cell?, hbox, Option.isSome_none, Bool.false_eq_true, if_false]
      rfl
    rwa [panW_cell hplt (by omega)] at hb1
  obtain ⟨_, y2, _, hr2⟩ := hw.ownCell hp hbox'
  obtain ⟨g', s3, hg, rfl⟩ := hr2.slice_inv
  obtain rfl := hw.sh g g' s3 (by omega) hg
  have hglt := (hw.dom _ _ hg).1
  have hL' : ∀ j, j < n → wl.cell? ⟨gl, j, none⟩ = some (.int .i64 (L j)) := fun j hj => by
    have := hL.at0 j hj
    rwa [panW_cell hgllt (by omega)] at this
  have hI' : ∀ j, j < m * 4 → wl.cell? ⟨g, j, none⟩ = some (.int .i64 (f j)) := fun j hj => by
    have := hI (j / 4) (by omega) (j % 4) (by omega)
    rw [show 0 + j / 4 * 4 + j % 4 = j by omega, show j / 4 * 4 + j % 4 = j by omega] at this
    rwa [panW_cell hglt (by omega)] at this
  have hne : p' ≠ g' := by
    rintro rfl
    obtain rfl := hw.inj p g p' 0 0 (by omega) hp hg
    obtain ⟨cs, e, fz, q1, q2⟩ := hfu
    rw [hbox] at q1
    cases q1
    simp at q2
    omega
  refine ⟨some ⟨gl, 0, none⟩, _, gl', cl, k, 34, _, _, L, fun y => y = p' ∨ y = g', rfl, rfl, rfl, rfl, fun _ => rfl, rfl, rfl, k0, k8, fun w1 hk h2 hm => ?_⟩
  have hw1 := hw.rely hk
  have hp2 : 2 ≤ p' := hm p' ⟨p, by omega, hp⟩
  have hg2 : 2 ≤ g' := hm g' ⟨g, by omega, hg⟩
  have hplt' := (hw1.dom _ _ hp).2
  have hglt' := (hw1.dom _ _ hg).2
  have cbox : w1.cell? ⟨p', 0, none⟩ = some (.slice (some ⟨g', 0, none⟩) m m) := by
    obtain ⟨_, z, hz, hr⟩ := hw1.ownCell hp hbox'
    obtain ⟨c, s, e1, rfl⟩ := hr.slice_inv
    rw [hg] at e1
    cases e1
    exact hz
  have crow : ∀ j, j < m * 4 → w1.cell? ⟨g', j, none⟩ = some (.int .i64 (f j)) := fun j hj => hw1.ownInt hg (hI' j hj)
  refine ⟨(hw1.dom _ _ hgl).2, fun j hj => hw1.ownInt hgl (hL' j hj), ⟨⟨fun args w => ?_, fun args w es => ?_⟩, rfl, fun x i v hv => ?_, fun x h i v hv => ?_, fun b => if b = p' then 1 else m * 4, ⟨h2, fun b hb => ?_, fun b hb => ?_⟩, fun w2 hk2 i hi U2 => ?_⟩, fun y hy => ?_⟩
  · simp only [Go.callFunc, Sem.run_bind, run_program, Result.andThen_ok, Try.func34]
    rfl
  · simp only [Go.callFunc, Sem.events_bind, run_program, Result.evThen_ok, Try.func34]
    rfl
  · match i, hv with
    | 0, hv => cases hv; exact .flat rfl
    | 1, hv =>
      cases hv
      exact VRel.ptr (a := ⟨p', 0, none⟩) (c := p') (s := 0) (Sq.ren_iff.2 ⟨.inl rfl, rfl, rfl⟩)
    | i + 2, hv => simp at hv
  · match i, hv with
    | 0, hv => cases hv; exact NP.int _ _
    | 1, hv => trivial
    | i + 2, hv => simp at hv
  · rcases hb with rfl | rfl
    · exact hp2
    · exact hg2
  · rcases hb with rfl | rfl
    · refine read_row (g := fun _ => .slice (some ⟨g', 0, none⟩) m m) hplt' (fun i hi => ?_) (fun i hi => ⟨NP.slice _ _ _, VRel.slice (a := ⟨g', 0, none⟩) (c := g') (s := 0) (Sq.ren_iff.2 ⟨.inr rfl, rfl, rfl⟩)⟩)
      rw [if_pos rfl] at hi
      obtain rfl : i = 0 := by omega
      exact cbox
    · refine read_row (g := fun i => .int .i64 (f i)) hglt' (fun i hi => ?_) (fun i hi => ⟨NP.int _ _, .flat rfl⟩)
      rw [if_neg (Ne.symm hne)] at hi
      exact crow i hi
  · have cell2 : ∀ b i : Nat, (b = p' ∨ b = g') → 2 ≤ b → i < (if b = p' then 1 else m * 4) → (Sim.tp (Sq.heldM (fun b => if b = p' then 1 else m * 4) w2) U2 0).cell? ⟨b, i, none⟩ = w1.cell? ⟨b, i, none⟩ := fun b i hb h2 hi => by
      have e1 : (Sim.tp (Sq.heldM (fun b => if b = p' then 1 else m * 4) w2) U2 0).cell? ⟨b, i, none⟩ = w2.cell? ⟨b, i, none⟩ := Sq.heldM_cell (m := fun b => if b = p' then 1 else m * 4) (a := ⟨b, i, none⟩) h2 hi
      rw [e1]
      unfold World.cell?
      rw [hk2 b hb]
    show Calls Sq.prog 34 #[.int .i64 (L i), .pointer (some ⟨p', 0, none⟩)] _ _
    refine (lit34_impl m m g' p' f (L i) _ ?_ (fun i hi j hj => ?_) hent).mono fun e w' h => ?_
    · rw [cell2 p' 0 (.inl rfl) hp2 (by rw [if_pos rfl]; omega)]
      exact cbox
    · rw [cell2 g' _ (.inr rfl) hg2 (by rw [if_neg (Ne.symm hne)]; omega), Nat.zero_add]
      exact crow _ (by omega)
    · rw [h.1, hF i hi]
  · rcases hy with rfl | rfl
    · exact hplt'
    · exact hglt'
end Go.Proofs.Ytpigjhagdpeofaa

namespace Go.Proofs.Ytpigjhagdpeofaa.Sim
open Go Go.Conc Go.RowKit
set_option linter.unusedVariables false
/-- What the law is handed in memory: its place in company and the cells that are looked at. -/
structure Inp where
  a : Addr
  cs : Array Value
structure Inp.Ok (W : World) (p : Inp) : Prop where
  lt : p.a.block < W.heap.size
  at_ : ∀ (i : Nat) x, p.cs[i]? = some x → NP x ∧ flat x = true ∧ W.cell? ⟨p.a.block, p.a.off + i, none⟩ = some x
def inpObj (p : Inp) : Obj := .cells p.cs 2 (0, p.cs.size)
def iren (ps : List Inp) : Ren := fun b => if 4 ≤ b then (ps[b - 4]?).map fun p => (p.a.block, p.a.off) else none
noncomputable abbrev XI (n : Nat) (F : Nat → Int) (ps : List Inp) : Ctx := XL n F (ps.map inpObj) (iren ps)
def lone1 (n : Nat) (F : Nat → Int) (ps : List Inp) (W : World) : World := { W with heap := Sq.h (letter :: orc n F :: ps.map inpObj) }
section
variable {n : Nat} {F : Nat → Int} {ps : List Inp} {W : World}
theorem iren_is {b c s : Nat} (h : iren ps b = some (c, s)) : 4 ≤ b ∧ ∃ p, p ∈ ps ∧ ps[b - 4]? = some p ∧ c = p.a.block ∧ s = p.a.off := by
  unfold iren at h
  split at h
  · rename_i h4
    cases hp : ps[b - 4]? with
    | none => rw [hp] at h; cases h
    | some p =>
      rw [hp] at h
      simp only [Option.map_some, Option.some.injEq, Prod.mk.injEq] at h
      exact ⟨h4, p, List.mem_of_getElem? hp, rfl, h.1.symm, h.2.symm⟩
  · cases h
theorem lone1_size : (lone1 n F ps W).heap.size = ps.length + 4 := by simp [lone1, Sq.h]
theorem lone1_at {b : Nat} (h : 4 ≤ b) : (lone1 n F ps W).heap[b]? = (ps[b - 4]?).map inpObj := by
  obtain ⟨b, rfl⟩ : ∃ k, b = k + 4 := ⟨b - 4, by omega⟩
  simp only [lone1, Sq.h, List.getElem?_toArray, List.getElem?_cons_succ, List.getElem?_map]
  rfl
theorem lone1_cell {j i : Nat} {p : Inp} (h : ps[j]? = some p) : (lone1 n F ps W).cell? ⟨j + 4, i, none⟩ = p.cs[i]? := by
  unfold World.cell?
  rw [show ((⟨j + 4, i, none⟩ : Addr).block) = j + 4 from rfl, lone1_at (by omega), Nat.add_sub_cancel, h]
  rfl
theorem lone1_rel (hp : ∀ p ∈ ps, p.Ok W) : WRel (XI n F ps) (iren ps) (lone1 n F ps W) W := by
  have hn : (XI n F ps).n0 = ps.length + 4 := lone1_size (W := W)
  have hlt : ∀ {b : Nat} {p : Inp}, 4 ≤ b → ps[b - 4]? = some p → b < ps.length + 4 := fun {b p} h4 h => by
    have := (List.getElem?_eq_some_iff.1 h).1
    omega
  refine ⟨fun b x hx => ?_, fun b b' c s s' hb hx => ?_, fun b c s hb hx => ?_, fun b c s hx => ?_, fun b x hb hx i v hv => ?_, fun b hb => rfl, fun b hb => rfl, ?_⟩
  · obtain ⟨c, s⟩ := x
    obtain ⟨h4, p, hm, h1, rfl, rfl⟩ := iren_is hx
    exact ⟨by rw [lone1_size]; exact hlt h4 h1, (hp p hm).lt⟩
  · obtain ⟨h4, p, hm, h1, rfl, rfl⟩ := iren_is hx
    have := hlt h4 h1
    omega
  · obtain ⟨h4, p, hm, h1, rfl, rfl⟩ := iren_is hx
    have := hlt h4 h1
    omega
  · obtain ⟨h4, p, hm, h1, rfl, rfl⟩ := iren_is hx
    refine ⟨p.cs, 2, (0, p.cs.size), by rw [lone1_at h4, h1]; rfl, fun i x hx => ?_⟩
    obtain ⟨h2, h3, h5⟩ := (hp p hm).at_ i x hx
    unfold World.cell? at h5
    rw [show ((⟨p.a.block, p.a.off + i, none⟩ : Addr).block) = p.a.block from rfl] at h5
    cases ho : W.heap[p.a.block]? with
    | none => rw [ho] at h5; cases h5
    | some o =>
      rw [ho] at h5
      cases o with
      | cells cs e fz =>
        refine ⟨h2, cs, e, fz, rfl, fun hb => ?_, x, by simpa using h5, .flat h3⟩
        have := hlt h4 h1
        omega
      | _ => cases h5
  · obtain ⟨c, s⟩ := x
    obtain ⟨h4, p, hm, h1, rfl, rfl⟩ := iren_is hx
    have e1 : (lone1 n F ps W).heap[b]? = some (.cells p.cs 2 (0, p.cs.size)) := by rw [lone1_at h4, h1]; rfl
    have hlt : i < p.cs.size := by
      simp only [World.cell?, e1] at hv
      exact (Array.getElem?_eq_some_iff.1 (by simpa using hv)).1
    simp [World.frozen?, e1, hlt]
  · rw [hn, lone1_size]
    exact Nat.le_refl _
/-- The law's run. -/
theorem law_run1 {PreL : World → Value → Value → Value → Prop} {f0 : FuncId} {args args' : Array Value} (hn : n < 1000000000) (hf0 : LawFn f0) (hok : Sq.mem Sq.lawFns f0 = true) (h2 : 2 ≤ W.heap.size) (hp : ∀ p ∈ ps, p.Ok W) (ha : ARel (Sq.mem Sq.lawFns) (iren ps) args args')
    (hcls : ∀ (i : Nat) x, args[i]? = some x → InCls (XI n F ps) (Sq.cl f0 i) x) (hPre : PreOK (XI n F ps) n F PreL) (hblind : ∀ w U K va vb vc, PreL (tp w U K) va vb vc → PreL w va vb vc)
    (hK : ∀ U : Nat → Question → Nat, Calls Sq.prog f0 args (tp (lone1 n F ps W) U 0) (LawR PreL)) : ResW Try.prog W (fun v => v = .bool true) (solo (G (Frame.enter Try.prog f0 args' .normal) []) W) #[] := by
  have hw := lone1_rel (n := n) (F := F) hp
  have hO : Ords (XI n F ps) 33 := Sq.ords_law (letter :: orc n F :: ps.map inpObj) (iren ps)
  have hH := law_hh (X := XI n F ps) rfl hf0 hK
  have hB : Bar2 (XI n F ps) [] n F (TL f0 PreL) (SE Try.prog (RdX (XI n F ps)) (fun v => v = .bool true)) :=
    bar_law rfl rfl hO hn hf0 hPre hblind (fun r wl wc hw => (two_old hw).2.1) (fun al cl k f caps w h3 ht hor => Sq.go33 hn h3 ht hor) (fun r va vb vc cs cs' wl wc K pre hs hw hH => told33 hf0.ne hs hw hH)
  have key := bar2 hB (Sim.Fr.enter hO hok hf0.ne ha hcls) (.inl ⟨rfl, rfl⟩) .nil hw hH
  have hmine : ∀ c, ¬ Mine (XI n F ps) (iren ps) c := fun c ⟨b, hb, hx⟩ => by
    have h1 := (hw.dom b _ hx).1
    rw [lone1_size] at h1
    have h3 : (XI n F ps).n0 = ps.length + 4 := lone1_size (W := W)
    omega
  refine Wp.ends key (w0 := W) h2 ⟨rfl, fun x h hx hg => ?_, past_nil.mono (Nat.zero_le _), fun op ho => by simp at ho⟩ ⟨fun c hc => ?_, rfl, rfl, rfl, Nat.le_refl _, fun c _ => ⟨hmine c, rfl⟩⟩
  · have : x < 1 := by simpa using (Array.getElem?_eq_some_iff.1 hg).1
    omega
  · rcases hc with hc | ⟨b, s, hb, hx⟩
    · exact absurd hc (hmine c)
    · exact (hw.dom b _ hx).2
/-- A slice that the law is handed. -/
def inpOf (ad : Option Addr) (m : Nat) (g : Nat → Value) : Inp := ⟨ad.getD ⟨0, 0, none⟩, Array.ofFn (n := m) fun i => g i⟩
def inAd (ad : Option Addr) (j : Nat) : Option Addr := ad.map fun _ => ⟨j + 4, 0, none⟩
theorem inpOf_at {ad : Option Addr} {m i : Nat} {g : Nat → Value} (h : i < m) : (inpOf ad m g).cs[i]? = some (g i) := by
  show (Array.ofFn (n := m) fun i => g i)[i]? = _
  simp [h]
theorem inpOf_is {ad : Option Addr} {m i : Nat} {g : Nat → Value} {x : Value} (h : (inpOf ad m g).cs[i]? = some x) : i < m ∧ x = g i := by
  have hi : i < m := by
    have := (Array.getElem?_eq_some_iff.1 h).1
    simpa [inpOf] using this
  rw [inpOf_at hi] at h
  cases h
  exact ⟨hi, rfl⟩
theorem InR.inp {k c : Nat} {ad : Option Addr} {X : Rec} (h : InR k W (.slice ad X.length c) X) (h2 : 2 ≤ W.heap.size) (hl : ∀ a, ad = some a → a.block < W.heap.size ∧ a.spot = none) : (inpOf ad (X.length * k) fun i => .int .i64 (X.f i)).Ok W := by
  obtain ⟨a, cap, hv, hm, ha⟩ := h
  cases hv
  refine ⟨?_, fun i x hx => ?_⟩
  · cases ad with
    | none => show 0 < _; omega
    | some a => exact (hl a rfl).1
  · obtain ⟨hi, rfl⟩ := inpOf_is hx
    have hk : 0 < k := Nat.pos_of_ne_zero fun e => by subst e; simp at hi
    obtain ⟨g, off, rfl, hI⟩ := ha (fun e => by rw [e] at hi; simp at hi)
    refine ⟨.int _ _, rfl, ?_⟩
    have := hI (i / k) ((Nat.div_lt_iff_lt_mul hk).2 hi) (i % k) (Nat.mod_lt _ hk)
    have e : i / k * k + i % k = i := by rw [Nat.mul_comm]; exact Nat.div_add_mod i k
    rw [Nat.add_assoc, e] at this
    exact this
theorem InR.in1 {k c j : Nat} {ad : Option Addr} {X : Rec} (h : InR k W (.slice ad X.length c) X) (hj : ps[j]? = some (inpOf ad (X.length * k) fun i => .int .i64 (X.f i))) : InR k (lone1 n F ps W) (.slice (inAd ad j) X.length c) X := by
  obtain ⟨a, cap, hv, hm, ha⟩ := h
  cases hv
  refine ⟨_, _, rfl, hm, fun hx => ?_⟩
  obtain ⟨g, off, rfl, hI⟩ := ha hx
  refine ⟨j + 4, 0, rfl, fun i hi q hq => ?_⟩
  rw [lone1_cell hj, Nat.zero_add]
  refine inpOf_at ?_
  calc i * k + q < i * k + k := by omega
    _ = (i + 1) * k := by rw [Nat.add_mul, Nat.one_mul]
    _ ≤ X.length * k := Nat.mul_le_mul_right k hi
theorem InI.inp {c : Nat} {ad : Option Addr} {xs : List Int} (h : InI W (.slice ad xs.length c) xs) (h2 : 2 ≤ W.heap.size) (hl : ∀ a, ad = some a → a.block < W.heap.size ∧ a.spot = none) : (inpOf ad xs.length fun i => .int .i64 (xs.getD i 0)).Ok W := by
  obtain ⟨a, cap, hv, ha⟩ := h
  cases hv
  refine ⟨?_, fun i x hx => ?_⟩
  · cases ad with
    | none => show 0 < _; omega
    | some a => exact (hl a rfl).1
  · obtain ⟨hi, rfl⟩ := inpOf_is hx
    obtain ⟨g, off, rfl, hI⟩ := ha (fun e => by rw [e] at hi; simp at hi)
    exact ⟨.int _ _, rfl, hI i hi⟩
theorem InI.in1 {c j : Nat} {ad : Option Addr} {xs : List Int} (h : InI W (.slice ad xs.length c) xs) (hj : ps[j]? = some (inpOf ad xs.length fun i => .int .i64 (xs.getD i 0))) : InI (lone1 n F ps W) (.slice (inAd ad j) xs.length c) xs := by
  obtain ⟨a, cap, hv, ha⟩ := h
  cases hv
  refine ⟨_, _, rfl, fun hx => ?_⟩
  obtain ⟨g, off, rfl, hI⟩ := ha hx
  refine ⟨j + 4, 0, rfl, fun i hi => ?_⟩
  rw [lone1_cell hj, Nat.zero_add]
  exact inpOf_at hi
theorem in1_rel {ok : FuncId → Bool} {ad : Option Addr} {j m l c : Nat} {g : Nat → Value} (hl : ∀ a, ad = some a → a.block < W.heap.size ∧ a.spot = none) (hj : ps[j]? = some (inpOf ad m g)) : VRel ok (iren ps) (.slice (inAd ad j) l c) (.slice ad l c) := by
  cases ad with
  | none => exact .flat rfl
  | some a =>
    obtain ⟨b, off, spot⟩ := a
    have hs : spot = none := (hl _ rfl).2
    subst hs
    have := VRel.slice (ok := ok) (r := iren ps) (a := ⟨j + 4, 0, none⟩) (c := b) (s := off) (l := l) (k := c) (by
      show iren ps (j + 4) = _
      unfold iren
      rw [if_pos (by omega), Nat.add_sub_cancel, hj]
      rfl)
    exact this
theorem lone1_sat : Sat2 n F (lone1 n F ps W) := by
  refine ⟨⟨#[.int .i64 0, .nilFunc], 58, rfl, rfl⟩, fun p hp => ?_, ?_⟩
  · show (Sq.rowF n F)[p]? = _
    exact Sq.rowF_at hp
  · rw [lone1_size]; omega
theorem Sat2.tp {w : World} (h : Sat2 n F w) (U : Nat → Question → Nat) (K : Nat) : Sat2 n F (Sim.tp w U K) := ⟨h.box, h.orc, h.low⟩
theorem slice_at {P : Program} {r : Go.Reach} {base : Nat} {t e : TypeId} (ht : P.underlying t = some (.slice e)) {ad : Option Addr} {len cap : Nat} (h : Value.okWide P W r base t (.slice ad len cap)) : ∀ a, ad = some a → a.block < W.heap.size ∧ a.spot = none := by
  rintro a rfl
  simp only [Value.okWide, ht, Cell.okWide, Cell.ok] at h
  obtain ⟨_, _, _, hs, row, cells, hsh, _⟩ := h
  refine ⟨?_, hs⟩
  unfold World.shape? at hsh
  cases ho : W.heap[a.block]? with
  | none => rw [ho] at hsh; cases hsh
  | some o => exact (Array.getElem?_eq_some_iff.1 ho).1
theorem two_of_shaped (h : W.ShapedOpen Try.prog) : 2 ≤ W.heap.size := by
  obtain ⟨⟨z, t⟩, hx⟩ := Option.isSome_iff_exists.1 (show (((begin Try.prog (fun _ _ => 0) default).world.heap[1]?).bind Obj.row?).isSome = true by kernel_rfl)
  obtain ⟨cs, h1, _⟩ := h.1 1 z t (of_decide_eq_true (by kernel_rfl)) hx
  have := (Array.getElem?_eq_some_iff.1 h1).1
  omega
theorem Kw.below {w w' : World} (h : Kw w w') : Below w.heap.size w w' := ⟨h.os, h.tape, h.output, h.size, h.keep⟩
end
section
variable {H : Type} {enc : TypeId × Value → H}
/-- From a good run from every start to the row, for a call that starts goroutines: the start's shape is handed over. -/
theorem leaving_of_shaped {a : Assume} {C : Checked} {os : Os} {f : FuncId} {fn : Func} {s : ChangeSpec} {conds : List PathCond} {apart fresh handsOn again : Bool}
    (own : ownKnob C.prog.godebug = none) (started : os.Started) (hfn : C.prog.funcs[f]? = some fn)
    (witness : ∃ (w : World) (tape : Tape) (i : Input), w.os = os ∧ (w.forCall tape i).Shaped C.prog ∧ i.vars = [] ∧ Input.okWide C.prog (w.forCall tape i) .any w.heap.size f i ∧
      s.pre6 enc C.prog fn conds apart (w.forCall tape i).memory i.args ∧ a.holds C.prog (Go.lone (Frame.enter C.prog f i.args .normal) [] (w.forCall tape i)))
    (runs : ∀ (W : World) (base : Nat) (args : Array Value) (ds gs : List (DataW H)) (before : List MemPlace), W.ShapedOpen C.prog →
      (∀ (j : Nat) t v, fn.params[j]? = some t → args[j]? = some v → Value.okWide C.prog W .any base t v) →
      DataW.Whole enc C.prog fn.params.toList s.vars apart W args.toList ds gs before →
      ∃ M last o w' t', runNT C.prog (M + 1) (solo (G (Frame.enter C.prog f args .normal) []) W) #[] = (.ended o w', t') ∧ runN C.prog M (solo (G (Frame.enter C.prog f args .normal) []) W) = .next last ∧
        step C.prog last = .ended o w' ∧ Conc.Good C.prog (fun v W' => s.post enc C.prog fn apart fresh handsOn again W args v W') last o w' t') :
    ReturnsInLeavingWide a C os f .any (s.pre6 enc C.prog fn conds apart) (s.post enc C.prog fn apart fresh handsOn again) := by
  refine returnsInLeavingWide_of_good own started witness fun w tape i _ hsh _ hok hpre _ => ?_
  obtain ⟨_, _, _, fn', hfn', _, _, _, _, hval⟩ := hok
  obtain rfl : fn' = fn := Option.some.inj (hfn'.symm.trans hfn)
  obtain ⟨⟨ds, gs, before, hw, _⟩, _⟩ := hpre
  obtain ⟨M, last, o, w', t', h1, h2, h3, h4⟩ := runs (w.forCall tape i) w.heap.size i.args ds gs before hsh hval (DataW.Whole.of_heap (w' := w.forCall tape i) (by rfl) hw)
  exact ⟨M, last, o, w', t', h1, h2, h3, h4.mono fun v hp => ChangeSpec.post_blind hp⟩
end
end Go.Proofs.Ytpigjhagdpeofaa.Sim
