/-
  The law of SharesShared over the second program: it returns true, or tells. No condition but the oracle.
  What SharesShared's told call gives of the company's memory. No condition.
-/
import Derived.Test.YtpigjhagdpeofaaSm5
import Derived.Test.YtpigjhagdpeofaaSa4
import Derived.Deep.RegionHeld3
import Derived.Test.YtpigjhagdpeofaaSm12

namespace Go.Proofs.Ytpigjhagdpeofaa
open Go.ChangeShapes Go.WideShapes Go.ChangeAt Go.RowKit Go.Proofs.Ytpigjhagdpeofaa.Sim
set_option linter.unusedVariables false
theorem RowI.mono {E : TypeId} {w : World} {B B' : Nat} {v : Value} {xs : List Int} (h : RowI E w B v xs) (hB : B' ≤ B) : RowI E w B' v xs := ⟨h.1.mono hB, h.2⟩
set_option maxHeartbeats 4000000 in
theorem walk_shaSh (x0 : List Int) (ad0 : Option Addr) (c0 : Nat) (x1 : List Int) (ad1 : Option Addr) (c1 : Nat) (x2 : Int) (w : World) (i0 : InI w (.slice ad0 x0.length c0) x0) (i1 : InI w (.slice ad1 x1.length c1) x1) (h4 : 3 < w.heap.size) (hS : ShaSh_r1 x0.length (fun i => x0.getD i 0) x1.length (fun i => x1.getD i 0) x2 = true → Sat2 x0.length (ShaSh_F (fun i => x0.getD i 0) x1.length fun i => x1.getD i 0) w) :
    Calls Sq.prog 5 #[.slice ad0 x0.length c0, .slice ad1 x1.length c1, .int .i64 x2] w fun e w' => e = .returned (.bool true) ∨ Told (PreS w.heap.size x0.length (ShaSh_F (fun i => x0.getD i 0) x1.length fun i => x1.getD i 0)) e w' := by
  rcases Int.lt_or_le 1048576 (x0.length : Int) with hl0 | hl0
  · go_enter Sq.func5, Sq.ntmps5
    go_wp2_with fail
    go_ret
    exact Or.inl rfl
  rcases Int.lt_or_le 1048576 (x1.length : Int) with hl1 | hl1
  · go_enter Sq.func5, Sq.ntmps5
    go_wp2_with fail
    go_ret
    exact Or.inl rfl
  go_enter Sq.func5, Sq.ntmps5
  go_wp2_with fail
  refine (to_i i0 (by omega)).mono ?_
  rintro e w1 ⟨v_t1, rfl, o_t1, b1⟩
  have C1 := b1
  have lt_t1 := Lib.hid o_t1.lt
  go_wp2_with fail
  refine (to_i (i1.below C1) (by omega)).mono ?_
  rintro e w2 ⟨v_t2, rfl, o_t2, b2⟩
  have C2 := bnext C1 b2
  replace o_t1 := o_t1.below b2
  have lt_t2 := Lib.hid o_t2.lt
  go_wp2_with fail
  refine (ShaSh_spec o_t1 o_t2 (k := x2)).mono ?_
  rintro e w3 ⟨v_w0, rfl, o_w0, ln_w0, b3⟩
  have C3 := bnext C2 b3
  replace o_t1 := o_t1.below b3
  replace o_t2 := o_t2.below b3
  have lt_w0 := Lib.hid o_w0.lt
  go_wp2_with fail
  refine (to_i (i0.below C3) (by omega)).mono ?_
  rintro e w4 ⟨v_t3, rfl, o_t3, b4⟩
  have C4 := bnext C3 b4
  replace o_w0 := o_w0.below b4
  have lt_t3 := Lib.hid o_t3.lt
  go_wp2_with fail
  refine (to_i (i1.below C4) (by omega)).mono ?_
  rintro e w5 ⟨v_t4, rfl, o_t4, b5⟩
  have C5 := bnext C4 b5
  replace o_w0 := o_w0.below b5
  replace o_t3 := o_t3.below b5
  have lt_t4 := Lib.hid o_t4.lt
  go_wp2_with fail
  refine (ShaSh_impl (B := w.heap.size) (k := x2) (o_t3.mono C3.size) (o_t4.mono C4.size) h4 (fun h => (hS h).below C5)).mono ?_
  intro e w6 hh
  rcases hh.symm with ht | ⟨v_g0, rfl, o_g0, ln_g0, b6⟩
  · obtain ⟨x, ch, va, vb, vc, e0, rfl, q1, q2, q3⟩ := ht
    exact ⟨rfl, Or.inr ⟨x, ch, va, vb, vc, e0, rfl, q1, q2, q3⟩⟩
  have C6 := bnext C5 b6
  replace o_w0 := o_w0.below b6
  replace o_t3 := o_t3.below b6
  replace o_t4 := o_t4.below b6
  have lt_g0 := Lib.hid o_g0.lt
  go_wp2_with fail
  refine (eq_i o_g0 o_w0 (by omega)).mono ?_
  rintro e w7 ⟨rfl, b7⟩
  have C7 := bnext C6 b7
  replace o_w0 := o_w0.below b7
  replace o_t3 := o_t3.below b7
  replace o_t4 := o_t4.below b7
  replace o_g0 := o_g0.below b7
  go_wp2_with fail
  refine (to_i (i0.below C7) (by omega)).mono ?_
  rintro e w8 ⟨v_t5, rfl, o_t5, b8⟩
  have C8 := bnext C7 b8
  replace o_w0 := o_w0.below b8
  replace o_t3 := o_t3.below b8
  replace o_t4 := o_t4.below b8
  replace o_g0 := o_g0.below b8
  have lt_t5 := Lib.hid o_t5.lt
  go_wp2_with fail
  refine (eq_i o_t3.own o_t5.own (by omega)).mono ?_
  rintro e w9 ⟨rfl, b9⟩
  have C9 := bnext C8 b9
  replace o_w0 := o_w0.below b9
  replace o_t3 := o_t3.below b9
  replace o_t4 := o_t4.below b9
  replace o_g0 := o_g0.below b9
  replace o_t5 := o_t5.below b9
  go_wp2_with fail
  refine (to_i (i1.below C9) (by omega)).mono ?_
  rintro e w10 ⟨v_t6, rfl, o_t6, b10⟩
  have C10 := bnext C9 b10
  replace o_w0 := o_w0.below b10
  replace o_t3 := o_t3.below b10
  replace o_t4 := o_t4.below b10
  replace o_g0 := o_g0.below b10
  have lt_t6 := Lib.hid o_t6.lt
  go_wp2_with fail
  refine (eq_i o_t4.own o_t6.own (by omega)).mono ?_
  rintro e w11 ⟨rfl, b11⟩
  have C11 := bnext C10 b11
  replace o_w0 := o_w0.below b11
  replace o_t3 := o_t3.below b11
  replace o_t4 := o_t4.below b11
  replace o_g0 := o_g0.below b11
  replace o_t6 := o_t6.below b11
  go_wp2_with fail
  refine (mark_i _ o_t3.own (by omega) (by omega) (by omega)).mono ?_
  rintro e w12 ⟨rfl, q_x0, n12⟩
  have m12 := n12 w3.heap.size w4.heap.size lt_t3.out
  have C12 := C11.trans (m12.toBelow C3.size C11.size)
  replace o_w0 := o_w0.only m12 (fun k hk => .inl (by have := (lt_w0.out k hk).2; omega))
  replace o_t4 := o_t4.only m12 (fun k hk => .inr (by have := (lt_t4.out k hk).1; omega))
  replace o_g0 := o_g0.only m12 (fun k hk => .inr (by have := (lt_g0.out k hk).1; have := b5.size; omega))
  clear o_t3
  go_wp2_with fail
  refine (mark_i _ o_t4.own (by omega) (by omega) (by omega)).mono ?_
  rintro e w13 ⟨rfl, q_x1, n13⟩
  have m13 := n13 w4.heap.size w5.heap.size lt_t4.out
  have C13 := C12.trans (m13.toBelow C4.size C12.size)
  replace o_w0 := o_w0.only m13 (fun k hk => .inl (by have := (lt_w0.out k hk).2; have := b4.size; omega))
  replace q_x0 := q_x0.only m13 (fun k hk => .inl (by have := (lt_t3.out k hk).2; omega))
  replace o_g0 := o_g0.only m13 (fun k hk => .inr (by have := (lt_g0.out k hk).1; omega))
  clear o_t4
  go_wp2_with fail
  refine (eq_i o_g0 o_w0 (by omega)).mono ?_
  rintro e w14 ⟨rfl, b14⟩
  have C14 := bnext C13 b14
  replace o_w0 := o_w0.below b14
  replace q_x0 := q_x0.below b14
  replace q_x1 := q_x1.below b14
  replace o_g0 := o_g0.below b14
  go_wp2_with fail
  refine (mark_i _ o_g0 (by omega) (by omega) (by omega)).mono ?_
  rintro e w15 ⟨rfl, q_g0, n15⟩
  have m15 := n15 w5.heap.size w6.heap.size lt_g0.out
  have C15 := C14.trans (m15.toBelow C5.size C14.size)
  replace o_w0 := o_w0.only m15 (fun k hk => .inl (by have := (lt_w0.out k hk).2; have := b4.size; have := b5.size; omega))
  replace q_x0 := q_x0.only m15 (fun k hk => .inl (by have := (lt_t3.out k hk).2; have := b5.size; omega))
  replace q_x1 := q_x1.only m15 (fun k hk => .inl (by have := (lt_t4.out k hk).2; omega))
  clear o_g0
  go_wp2_with fail
  refine (held_i _ q_g0 (by omega) (by omega) (by omega)).mono ?_
  rintro e w16 ⟨rfl, b16⟩
  have C16 := bnext C15 b16
  replace o_w0 := o_w0.below b16
  replace q_x0 := q_x0.below b16
  replace q_x1 := q_x1.below b16
  replace q_g0 := q_g0.below b16
  go_wp2_with fail
  refine (to_i (i0.below C16) (by omega)).mono ?_
  rintro e w17 ⟨v_t7, rfl, o_t7, b17⟩
  have C17 := bnext C16 b17
  replace o_w0 := o_w0.below b17
  replace q_x0 := q_x0.below b17
  replace q_x1 := q_x1.below b17
  replace q_g0 := q_g0.below b17
  have lt_t7 := Lib.hid o_t7.lt
  go_wp2_with fail
  refine (to_i (i1.below C17) (by omega)).mono ?_
  rintro e w18 ⟨v_t8, rfl, o_t8, b18⟩
  have C18 := bnext C17 b18
  replace o_w0 := o_w0.below b18
  replace q_x0 := q_x0.below b18
  replace q_x1 := q_x1.below b18
  replace q_g0 := q_g0.below b18
  replace o_t7 := o_t7.below b18
  have lt_t8 := Lib.hid o_t8.lt
  go_wp2_with fail
  refine (ShaSh_impl (B := w.heap.size) (k := x2) (o_t7.mono C16.size) (o_t8.mono C17.size) h4 (fun h => (hS h).below C18)).mono ?_
  intro e w19 hh
  rcases hh.symm with ht | ⟨v_h0, rfl, o_h0, ln_h0, b19⟩
  · obtain ⟨x, ch, va, vb, vc, e0, rfl, q1, q2, q3⟩ := ht
    exact ⟨rfl, Or.inr ⟨x, ch, va, vb, vc, e0, rfl, q1, q2, q3⟩⟩
  have C19 := bnext C18 b19
  replace o_w0 := o_w0.below b19
  replace q_x0 := q_x0.below b19
  replace q_x1 := q_x1.below b19
  replace q_g0 := q_g0.below b19
  replace o_t7 := o_t7.below b19
  replace o_t8 := o_t8.below b19
  have lt_h0 := Lib.hid o_h0.lt
  go_wp2_with fail
  refine (eq_i o_h0 o_w0 (by omega)).mono ?_
  rintro e w20 ⟨rfl, b20⟩
  have C20 := bnext C19 b20
  replace o_w0 := o_w0.below b20
  replace q_x0 := q_x0.below b20
  replace q_x1 := q_x1.below b20
  replace q_g0 := q_g0.below b20
  replace o_h0 := o_h0.below b20
  go_wp2_with fail
  refine (held_i _ q_g0 (by omega) (by omega) (by omega)).mono ?_
  rintro e w21 ⟨rfl, b21⟩
  have C21 := bnext C20 b21
  replace o_w0 := o_w0.below b21
  replace q_x0 := q_x0.below b21
  replace q_x1 := q_x1.below b21
  replace q_g0 := q_g0.below b21
  replace o_h0 := o_h0.below b21
  go_wp2_with fail
  go_ret
  exact Or.inl rfl


end Go.Proofs.Ytpigjhagdpeofaa

namespace Go.Proofs.Ytpigjhagdpeofaa
open Go.RowKit Go.Proofs.Ytpigjhagdpeofaa.Sim
set_option linter.unusedVariables false
set_option maxHeartbeats 1600000 in
theorem preS_ok {n N0 : Nat} {F : Nat → Int} {hl : List Obj} {r0 : Ren} (hN : (XL n F hl r0).n0 ≤ N0) : PreOK (XL n F hl r0) n F (PreS N0 n F) := by
  intro r wl wc va vb vc va' vb' vc' U K hw ha hb hc hpre
  have h4 : 4 ≤ (XL n F hl r0).n0 := by
    show 4 ≤ (Sq.h (letter :: orc n F :: hl)).size
    simp [Sq.h]
  obtain ⟨gl, cl, k, m, cw, g, p, f, L, rfl, rfl, k0, k8, rfl, n1, n2, n3, hL, hbox, hI, hent, hF, _⟩ := hpre
  obtain ⟨gl', s1, hgl, rfl⟩ := ha.slice_inv
  obtain rfl := hb.int_inv
  obtain ⟨ds, hds, rfl⟩ := hc.fun_inv
  obtain ⟨y, rfl, hy⟩ := hds.one
  obtain ⟨p', s2, hp, rfl⟩ := hy.ptr_inv
  obtain rfl := hw.sh gl gl' s1 (by omega) hgl
  obtain rfl := hw.sh p p' s2 (by omega) hp
  have hplt := (hw.dom _ _ hp).1
  have hgllt := (hw.dom _ _ hgl).1
  have hbox' : wl.cell? ⟨p, 0, none⟩ = some (.slice (some ⟨g, 0, none⟩) m cw) := by rwa [panW_cell hplt (by omega)] at hbox
  obtain ⟨_, y2, _, hr2⟩ := hw.ownCell hp hbox'
  obtain ⟨g', s3, hg, rfl⟩ := hr2.slice_inv
  obtain rfl := hw.sh g g' s3 (by omega) hg
  have hglt := (hw.dom _ _ hg).1
  have m1 := (plc_is hent).1
  have hL' : ∀ j, j < n → wl.cell? ⟨gl, j, none⟩ = some (.int .i64 (L j)) := fun j hj => by
    have := hL.at0 j hj
    rwa [panW_cell hgllt (by omega)] at this
  have hI' : ∀ j, j < m → wl.cell? ⟨g, j, none⟩ = some (.int .i64 (f j)) := fun j hj => by
    have := hI.at0 j hj
    rwa [panW_cell hglt (by omega)] at this
  have hne : p' ≠ g' := by
    rintro rfl
    obtain rfl := hw.inj p g p' 0 0 (by omega) hp hg
    have := hI' 0 (by omega)
    rw [hbox'] at this
    cases this
  refine ⟨some ⟨gl, 0, none⟩, _, gl', cl, k, 47, _, _, L, fun y => y = p' ∨ y = g', rfl, rfl, rfl, rfl, fun _ => rfl, rfl, rfl, k0, k8, fun w1 hk h2 hm => ?_⟩
  have hw1 := hw.rely hk
  have hp2 : 2 ≤ p' := hm p' ⟨p, by omega, hp⟩
  have hg2 : 2 ≤ g' := hm g' ⟨g, by omega, hg⟩
  have hplt' := (hw1.dom _ _ hp).2
  have hglt' := (hw1.dom _ _ hg).2
  have cbox : w1.cell? ⟨p', 0, none⟩ = some (.slice (some ⟨g', 0, none⟩) m cw) := by
    obtain ⟨_, z, hz, hr⟩ := hw1.ownCell hp hbox'
    obtain ⟨c, s, e1, rfl⟩ := hr.slice_inv
    rw [hg] at e1
    cases e1
    exact hz
  have crow : ∀ j, j < m → w1.cell? ⟨g', j, none⟩ = some (.int .i64 (f j)) := fun j hj => hw1.ownInt hg (hI' j hj)
  refine ⟨(hw1.dom _ _ hgl).2, fun j hj => hw1.ownInt hgl (hL' j hj), ⟨⟨fun args w => ?_, fun args w es => ?_⟩, rfl, fun x i v hv => ?_, fun x h i v hv => ?_, fun b => if b = p' then 1 else m, ⟨h2, fun b hb => ?_, fun b hb => ?_⟩, fun w2 hk2 i hi U2 => ?_⟩, fun y hy => ?_⟩
  · simp only [Go.callFunc, Sem.run_bind, run_program, Result.andThen_ok, Try.func47]
    rfl
  · simp only [Go.callFunc, Sem.events_bind, run_program, Result.evThen_ok, Try.func47]
    rfl
  · match i, hv with
    | 0, hv => cases hv; exact .flat rfl
    | 1, hv =>
      cases hv
      exact VRel.ptr (a := ⟨p', 0, none⟩) (c := p') (s := 0) (Sq.ren_iff.2 ⟨.inl rfl, rfl, rfl⟩)
    | i + 2, hv => simp at hv
  · match i, hv with
    | 0, hv => cases hv; exact NP.int _ _
    | 1, hv => trivial
    | i + 2, hv => simp at hv
  · rcases hb with rfl | rfl
    · exact hp2
    · exact hg2
  · rcases hb with rfl | rfl
    · refine read_row (g := fun _ => .slice (some ⟨g', 0, none⟩) m cw) hplt' (fun i hi => ?_) (fun i hi => ⟨NP.slice _ _ _, VRel.slice (a := ⟨g', 0, none⟩) (c := g') (s := 0) (Sq.ren_iff.2 ⟨.inr rfl, rfl, rfl⟩)⟩)
      rw [if_pos rfl] at hi
      obtain rfl : i = 0 := by omega
      exact cbox
    · refine read_row (g := fun i => .int .i64 (f i)) hglt' (fun i hi => ?_) (fun i hi => ⟨NP.int _ _, .flat rfl⟩)
      rw [if_neg (Ne.symm hne)] at hi
      exact crow i hi
  · have cell2 : ∀ b i : Nat, (b = p' ∨ b = g') → 2 ≤ b → i < (if b = p' then 1 else m) → (Sim.tp (Sq.heldM (fun b => if b = p' then 1 else m) w2) U2 0).cell? ⟨b, i, none⟩ = w1.cell? ⟨b, i, none⟩ := fun b i hb h2 hi => by
      have e1 : (Sim.tp (Sq.heldM (fun b => if b = p' then 1 else m) w2) U2 0).cell? ⟨b, i, none⟩ = w2.cell? ⟨b, i, none⟩ := Sq.heldM_cell (m := fun b => if b = p' then 1 else m) (a := ⟨b, i, none⟩) h2 hi
      rw [e1]
      unfold World.cell?
      rw [hk2 b hb]
    obtain ⟨f1, f2, f3⟩ := hF i hi
    show Calls Sq.prog 47 #[.int .i64 (L i), .pointer (some ⟨p', 0, none⟩)] _ _
    refine (lit47_impl m cw g' p' f (L i) _ ?_ (fun i hi => ?_) hent f2 f3).mono fun e w' h => ?_
    · rw [cell2 p' 0 (.inl rfl) hp2 (by rw [if_pos rfl]; omega)]
      exact cbox
    · rw [cell2 g' _ (.inr rfl) hg2 (by rw [if_neg (Ne.symm hne)]; omega), Nat.zero_add]
      exact crow _ hi
    · rw [h.1, f1]
  · rcases hy with rfl | rfl
    · exact hplt'
    · exact hglt'
end Go.Proofs.Ytpigjhagdpeofaa
