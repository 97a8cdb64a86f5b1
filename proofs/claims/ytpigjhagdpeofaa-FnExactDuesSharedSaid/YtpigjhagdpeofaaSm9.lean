/-
  Workers that each send once on a channel, and their starter: on every tape the machine comes to where the starter has heard them all. No condition.
  Workers that each send once on a channel, and their starter: from a frame in which all others only leave to such a frame. No condition.
  Goroutine 0's walk beside goroutines that only leave. No condition.
  The worker in company, from its birth to its send, and how it leaves. No condition.
  The starter in company, ahead of its workers: the head of impl.shared. No condition.
  impl.shared in company, ahead of its workers: its variables, its row, its channel. No condition.
-/
import Derived.Test.YtpigjhagdpeofaaSm8
import Derived.Conc.SmallLaws
import Derived.Conc.AppendWalk
import Derived.Laws.MakeOwn

namespace Go.Proofs.Ytpigjhagdpeofaa.Sim
open Go Go.Conc
set_option linter.unusedVariables false

/-- All but goroutine 0 only leave; goroutine 0 knows all that was done. -/
structure Bsd (P : Program) (gs : Array Goroutine) (g : Goroutine) (w : World) (t : Trace) : Prop where
  zero : gs[0]? = some g
  rest : ∀ x h, 0 < x → gs[x]? = some h → ∃ q, QuitsIn P q h
  past : Past (fun _ => False) w.heap.size t
  words : Wordless t

section
variable {P : Program} {o c n k b : Nat} {F : Nat → Int} {K : Nat → Prop} {Fin : (Nat → Prop) → Goroutine → World → Prop} {s : Nat} {ρ : Nat → Tr × Nat} {gs : Array Goroutine} {w : World} {t : Trace} {fl : Nat → Fl} {W Rr : Nat → Nat → Prop}
  {x : Nat} {M Rd : Nat → Prop} {g : Goroutine} {f : Fl} {r : Tr × Nat}
theorem GS.run_inv (h : GS P o c n k b F K Fin s x M Rd g w .run r) : (x = 0 ∧ Rd = K ∧ ∃ τ, r = (τ, 1) ∧ WkT P true (RW o k b 0 K) (DW o k b 0 K) (S0 P o c n k b F K Fin s) τ M g w) ∨
    (b ≤ x ∧ ∃ τ, r = (τ, 1) ∧ WkT P false (RW o k b x Rd) (DW o k b x Rd) (SW P o c n k b F x) τ M g w) := by
  cases h with
  | run0 hx hK h => exact .inl ⟨hx, hK, _, rfl, h⟩
  | run1 hx h => exact .inr ⟨hx, _, rfl, h⟩
theorem GS.blk_inv (h : GS P o c n k b F K Fin s x M Rd g w .blk r) : (x = 0 ∧ Rd = K ∧ ∃ s' g2 z, s = s' + 1 ∧ s' < k ∧ g = parked g2 #[rcase c z] (.recv false) ∧ ∀ w', RW o k b 0 K M w w' → WkG P true (RW o k b 0 K) (DW o k b 0 K) (S0 P o c n k b F K Fin s') M (Go.Conc.served g2 (.bool true)) w') ∨
    (b ≤ x ∧ ∃ g2 z q, g = parked g2 #[scase c (.bool true) z] .send ∧ QuitsIn P q (Go.Conc.served g2 undef) ∧ Filled o n k b F w x) := by
  cases h with
  | blk0 hx hK hs hk hg h => exact .inl ⟨hx, hK, _, _, _, hs, hk, hg, h⟩
  | blk1 hx hg hq h => exact .inr ⟨hx, _, _, _, hg, hq, h⟩

def rel1 : Tr × Nat → Tr × Nat → Prop := Prod.Lex Tr.Sub (fun a b : Nat => a < b)
theorem rel1_wf : WellFounded rel1 := (Prod.lex ⟨Tr.Sub, Tr.wf⟩ Nat.lt_wfRel).wf
def rel2 (N : Nat) : Nat × (Nat → Tr × Nat) → Nat × (Nat → Tr × Nat) → Prop := Prod.Lex (fun a b : Nat => a < b) (Low rel1 N)
theorem rel2_wf (N : Nat) : WellFounded (rel2 N) := (Prod.lex Nat.lt_wfRel ⟨Low rel1 N, Low.wf rel1_wf N⟩).wf
theorem rel2_left {N s s' : Nat} {ρ ρ' : Nat → Tr × Nat} (h : s' < s) : rel2 N (s', ρ') (s, ρ) := Prod.Lex.left _ _ h
theorem rel2_right {N s x : Nat} {ρ : Nat → Tr × Nat} {r : Tr × Nat} (hx : x < N) (h : rel1 r (ρ x)) : rel2 N (s, ConcN.upd ρ x r) (s, ρ) :=
  Prod.Lex.right _ ⟨x, hx, by rw [ConcN.upd_same]; exact h, fun j hj => ConcN.upd_ne _ _ hj⟩
theorem rel1_left {a a' : Tr} {m m' : Nat} (h : Tr.Sub a' a) : rel1 (a', m') (a, m) := Prod.Lex.left _ _ h
theorem rel1_right {a : Tr} {m m' : Nat} (h : m' < m) : rel1 (a, m') (a, m) := Prod.Lex.right _ h

theorem ofEvents_nil (g : Nat) (fn : FuncId) (pos : String) : MemOp.ofEvents g fn pos #[] = #[] := by simp [MemOp.ofEvents]

/-- The result of a step. -/
def Nxt (P : Program) (o c n k b : Nat) (F : Nat → Int) (K : Nat → Prop) (Fin : (Nat → Prop) → Goroutine → World → Prop) (s : Nat) (ρ : Nat → Tr × Nat) (gs : Array Goroutine) (w : World) (sl : Option (Nat × Nat)) (t : Trace) : Prop :=
  ∃ gs' w' sl' ops s' ρ' fl' W' Rr', stepT P (crowd gs w sl) = (.next (crowd gs' w' sl'), ops) ∧ rel2 (b + k) (s', ρ') (s, ρ) ∧ PI P o c n k b F K Fin s' ρ' gs' w' (t ++ ops) fl' W' Rr'

theorem PI.rK (h : PI P o c n k b F K Fin s ρ gs w t fl W Rr) : Rr 0 = K := by
  have h0 := h.gsx 0 (gs[0]'h.lt) (Array.getElem?_eq_getElem h.lt)
  cases hf : fl 0 with
  | run =>
    rw [hf] at h0
    rcases h0.run_inv with ⟨_, e, _⟩ | ⟨e, _⟩
    · exact e
    · have := h.bpos; omega
  | blk =>
    rw [hf] at h0
    rcases h0.blk_inv with ⟨_, e, _⟩ | ⟨e, _⟩
    · exact e
    · have := h.bpos; omega
  | out => exact absurd hf h.fl0
theorem PI.bound (h : PI P o c n k b F K Fin s ρ gs w t fl W Rr) {x : Nat} (hx : x < gs.size) : x < b + k := by
  have h1 := h.size
  have h2 := h.le
  unfold stt at h1
  split at h1 <;> omega
/-- Who offers a send. -/
theorem PI.senders (h : PI P o c n k b F K Fin s ρ gs w t fl W Rr) {i j m : Nat} (hp : (j, m) ∈ partners (gs.setIfInBounds i ph) c true) : m = 0 ∧ j ≠ i ∧ b ≤ j ∧ j < gs.size ∧ fl j = .blk ∧ ∃ g2 z q, gs[j]? = some (parked g2 #[scase c (.bool true) z] .send) ∧ QuitsIn P q (Go.Conc.served g2 undef) ∧ Filled o n k b F w j := by
  obtain ⟨gj, hj, hm⟩ := mem_partners.1 hp
  rcases getElem?_stand gs i j gj hj with ⟨_, rfl⟩ | ⟨hne, hj'⟩
  · rw [offersAt_ph] at hm; cases hm
  have h1 := h.gsx j gj hj'
  by_cases hf : fl j = .blk
  · rw [hf] at h1
    rcases h1.blk_inv with ⟨_, _, s', g2, z, _, _, rfl, _⟩ | ⟨hb, g2, z, q, rfl, hq, hfl⟩
    · rw [offersAt_parked_recv'] at hm; cases hm
    · rw [offersAt_parked_send, if_pos rfl] at hm
      simp at hm
      exact ⟨hm, hne, hb, (Array.getElem?_eq_some_iff.1 hj').1, hf, g2, z, q, hj', hq, hfl⟩
  · rw [h1.offers hf] at hm; cases hm
theorem PI.sender_in (h : PI P o c n k b F K Fin s ρ gs w t fl W Rr) {i j : Nat} (hne : j ≠ i) (hb : b ≤ j) (hj : j < gs.size) (hf : fl j = .blk) : (j, 0) ∈ partners (gs.setIfInBounds i ph) c true := by
  have hj' := Array.getElem?_eq_getElem hj
  have h1 := h.gsx j _ hj'
  rw [hf] at h1
  rcases h1.blk_inv with ⟨e, _⟩ | ⟨_, g2, z, q, hg, hq, hfl⟩
  · have := h.bpos; omega
  · refine mem_partners.2 ⟨_, stand_get hne hj', ?_⟩
    rw [hg, offersAt_parked_send, if_pos rfl]
    simp
/-- Who offers a receive. -/
theorem PI.receivers (h : PI P o c n k b F K Fin s ρ gs w t fl W Rr) {i j m : Nat} (hp : (j, m) ∈ partners (gs.setIfInBounds i ph) c false) : m = 0 ∧ j ≠ i ∧ j = 0 ∧ fl 0 = .blk ∧ ∃ s' g2 z, s = s' + 1 ∧ s' < k ∧ gs[0]? = some (parked g2 #[rcase c z] (.recv false)) ∧ ∀ w', RW o k b 0 K (W 0) w w' → WkG P true (RW o k b 0 K) (DW o k b 0 K) (S0 P o c n k b F K Fin s') (W 0) (Go.Conc.served g2 (.bool true)) w' := by
  obtain ⟨gj, hj, hm⟩ := mem_partners.1 hp
  rcases getElem?_stand gs i j gj hj with ⟨_, rfl⟩ | ⟨hne, hj'⟩
  · rw [offersAt_ph] at hm; cases hm
  have h1 := h.gsx j gj hj'
  by_cases hf : fl j = .blk
  · rw [hf] at h1
    rcases h1.blk_inv with ⟨e0, _, s', g2, z, hs, hk, rfl, hw⟩ | ⟨hb, g2, z, q, rfl, hq, hfl⟩
    · subst e0
      rw [offersAt_parked_recv, if_pos rfl] at hm
      simp at hm
      exact ⟨hm, hne, rfl, hf, s', g2, z, hs, hk, hj', hw⟩
    · rw [offersAt_parked_send'] at hm; cases hm
  · rw [h1.offers hf] at hm; cases hm
theorem PI.receiver_in (h : PI P o c n k b F K Fin s ρ gs w t fl W Rr) {i : Nat} (hne : i ≠ 0) (hf : fl 0 = .blk) : (0, 0) ∈ partners (gs.setIfInBounds i ph) c false := by
  have hj' := Array.getElem?_eq_getElem h.lt
  have h1 := h.gsx 0 _ hj'
  rw [hf] at h1
  rcases h1.blk_inv with ⟨_, _, s', g2, z, hs, hk, hg, hw⟩ | ⟨e, _⟩
  · refine mem_partners.2 ⟨_, stand_get (fun e => hne e.symm) hj', ?_⟩
    rw [hg, offersAt_parked_recv, if_pos rfl]
    simp
  · have := h.bpos; omega

/-- Somebody runs. -/
theorem PI.some1 (h : PI P o c n k b F K Fin s ρ gs w t fl W Rr) : ∃ (i : Nat) (g : Goroutine), gs[i]? = some g ∧ g.status = .running := by
  have h0 := h.gsx 0 (gs[0]'h.lt) (Array.getElem?_eq_getElem h.lt)
  cases hf : fl 0 with
  | run => rw [hf] at h0; exact ⟨0, _, Array.getElem?_eq_getElem h.lt, h0.status.1 rfl⟩
  | out => exact absurd hf h.fl0
  | blk =>
    rw [hf] at h0
    rcases h0.blk_inv with ⟨_, _, s', g2, z, hs, hk, hg, hw⟩ | ⟨e, _⟩
    · -- one that has not sent
      apply Classical.byContradiction
      intro hno
      have all : ∀ y, y < k → fl (b + y) = .out := by
        intro y hy
        have hst : stt k s = k := by unfold stt; split <;> omega
        have hlt : b + y < gs.size := by rw [h.size, hst]; omega
        have h1 := h.gsx (b + y) (gs[b + y]'hlt) (Array.getElem?_eq_getElem hlt)
        cases hfy : fl (b + y) with
        | out => rfl
        | blk => exact absurd hfy (h.excl hf (b + y) (by omega) hlt)
        | run =>
          rw [hfy] at h1
          exact absurd ⟨b + y, _, Array.getElem?_eq_getElem hlt, h1.status.1 rfl⟩ hno
      have hc := h.cnt
      have hst : stt k s = k := by unfold stt; split <;> omega
      rw [hst] at hc
      have key : ∀ j, j ≤ k → ConcN.sumTo j (fun y => outs (fl (b + y))) = j := by
        intro j
        induction j with
        | zero => intro _; rfl
        | succ j ih =>
          intro hj
          rw [ConcN.sumTo, ih (by omega), all j (by omega)]
          rfl
      rw [key k (Nat.le_refl _)] at hc
      unfold rcv at hc
      split at hc <;> omega
    · have := h.bpos; omega

set_option maxHeartbeats 1000000 in
theorem PI.step (h : PI P o c n k b F K Fin s ρ gs w t fl W Rr) (hnt : ¬ (s = 0 ∧ fl 0 = .run ∧ (ρ 0).1 = .stop)) (sl : Option (Nat × Nat)) : Nxt P o c n k b F K Fin s ρ gs w sl t := by
  have haw : ∀ g ∈ gs, awake g := by
    intro g hg
    obtain ⟨i, hi, rfl⟩ := Array.mem_iff_getElem.1 hg
    exact (h.gsx i _ (Array.getElem?_eq_getElem hi)).awake
  obtain ⟨i, g, d, sl', hi, hrun, hst⟩ := crowd_pick (P := P) (w := w) (sl := sl) haw h.some1
  replace h := h.at d
  have hlt : i < gs.size := (Array.getElem?_eq_some_iff.1 hi).1
  have hb := h.bound hlt
  have hg := h.gsx i g hi
  cases hf : fl i with
  | blk =>
    rw [hf] at hg
    rw [hg.status.2.1 rfl] at hrun
    cases hrun
  | out =>
    obtain ⟨h0, q, hq, hfl, hr⟩ := hg.side.1 hf
    cases q with
    | zero => rw [show g.status = .finished from hq] at hrun; cases hrun
    | succ q =>
      rcases hq with hq | ⟨_, g', hstep, hq⟩
      · rw [hq] at hrun; cases hrun
      have hi0 : (i == 0) = false := by simp [h0]
      have hrt := runT_crowd_go (P := P) (sl := sl') (i := i) hi (by rw [hi0]; exact hstep (w.at d))
      exact ⟨_, _, _, _, s, _, fl, W, Rr, hst.trans hrt, rel2_right hb (by rw [hr]; exact rel1_right (Nat.lt_succ_self q)), h.slip hi hf hq⟩
  | run =>
    rw [hf] at hg
    rcases hg.run_inv with ⟨rfl, hK, τ, hr, hw⟩ | ⟨hbi, τ, hr, hw⟩
    · cases τ with
      | step u =>
        obtain ⟨_, hk⟩ := hw
        obtain ⟨g', w', es, M', hs, hd, hw'⟩ := hk (w.at d) (RelyW.refl _ _)
        have hrt := runT_crowd_go (P := P) (sl := sl') (i := 0) hi hs
        rw [← hK] at hd
        exact ⟨_, _, _, _, s, _, fl, _, Rr, hst.trans hrt, rel2_right hb (by rw [hr]; exact rel1_left (.mk u _)), h.own hi hf hd (.run0 rfl hK hw')⟩
      | stop =>
        have hS := hw (w.at d) (RelyW.refl _ _)
        cases s with
        | zero => exact absurd ⟨rfl, hf, by rw [hr]⟩ hnt
        | succ s =>
          obtain ⟨_, ⟨hk, g2, z, hstep, hgo⟩ | ⟨hk, g', child, Rx, hstep, hRx, hm, hc⟩⟩ := hS
          · -- at a receive
            obtain ⟨rr, tm, hch⟩ := h.chan
            by_cases hne : partners (gs.setIfInBounds 0 ph) c true = []
            · have hrt := crowd_waits (P := P) (sl := sl') hi (by exact hstep) (fun cc hcc => by
                simp at hcc
                subst hcc
                exact ways_recv_none hch hne)
              refine ⟨_, _, _, _, s + 1, _, _, W, Rr, hst.trans hrt, rel2_right hb (by rw [hr]; exact rel1_right Nat.zero_lt_one), h.park (g := g) hi hf (.blk0 rfl hK rfl hk rfl hgo) ⟨fun _ y hy hys hfy => ?_, fun e => absurd rfl e⟩⟩
              have := h.sender_in (i := 0) (by have := h.bpos; omega) hy hys hfy
              rw [hne] at this
              cases this
            · obtain ⟨j, gj, vj, zj, shj, d2, hj0, hj, hrt⟩ := crowd_recv_meets_some (P := P) (sl := sl') hi (by exact hstep) hch hne (fun j m hp => by
                obtain ⟨h1, h2, _, _, _, g2, z, q, h3, _⟩ := h.senders hp
                exact ⟨h1, h2, g2, _, z, _, h3⟩)
              have hjl : j < gs.size := (Array.getElem?_eq_some_iff.1 hj).1
              have hgj := h.gsx j _ hj
              have hfj : fl j = .blk := by
                obtain ⟨e1, e2, e3⟩ := hgj.status
                cases hfj : fl j with
                | blk => rfl
                | run => have := e1 hfj; cases this
                | out => rcases e3 hfj with h | h <;> cases h
              rw [hfj] at hgj
              have hbj : b ≤ j := h.ge ⟨hjl, by rw [hfj]; simp⟩ hj0
              rcases hgj.blk_inv with ⟨e, _⟩ | ⟨_, g3, z3, q, hpk, hq, hfl⟩
              · exact absurd e hj0
              simp only [parked, Goroutine.mk.injEq, Option.some.injEq, Prod.mk.injEq, Array.mk.injEq, List.cons.injEq, scase, CommCase.mk.injEq] at hpk
              obtain ⟨p1, p2, _, p4, ⟨⟨_, p5, p6⟩, _⟩, p7⟩ := hpk
              subst p5; subst p7
              have e1 : gj.finishComm P #[scase c (.bool true) zj] .send 0 undef false = Go.Conc.served g3 undef := by
                rw [finishComm_send]
                unfold Go.Conc.served
                rw [p1]
                obtain ⟨gf, gc, gst, gd, gof⟩ := gj
                obtain ⟨gf3, gc3, gst3, gd3, gof3⟩ := g3
                simp only at p1 p2 p4
                subst p1; subst p2; subst p4
                rfl
              rw [e1] at hrt
              rw [finishComm_recv] at hrt
              have hmm := hgo (((w.at d).at d2).setChan c 0 #[] false (rr + 1) (rr + 1) tm) (RelyW.chan (fun y hy => (h.bnd 0 h.act0 y (hy.imp id (by rw [h.rK]; exact id))).2.2) h.one)
              obtain ⟨ρ', fl', hPI⟩ := h.meet (d := d2) (gs' := (gs.setIfInBounds j (Go.Conc.served g3 undef)).setIfInBounds 0 (Go.Conc.served g2 (.bool true))) hk hbj hjl (by rw [hfj]; simp) hch (by simp) (by rw [Array.getElem?_setIfInBounds_ne (fun e => hj0 e.symm), Array.getElem?_setIfInBounds_self_of_lt hjl])
                (by rw [Array.getElem?_setIfInBounds_self_of_lt (by simpa using h.lt)]) (fun y e1 e2 => by rw [Array.getElem?_setIfInBounds_ne (fun e => e2 e.symm), Array.getElem?_setIfInBounds_ne (fun e => e1 e.symm)]) hq hfl h.rK hmm
                (x1 := { g := j, fn := gj.frame.fn, pos := gj.frame.place, act := .send c rr }) (x2 := { g := 0, fn := g2.frame.fn, pos := g2.frame.place, act := .recv c rr 0 }) (x3 := { g := j, fn := gj.frame.fn, pos := gj.frame.place, act := .sendDone c rr }) (x4 := { g := 0, fn := g2.frame.fn, pos := g2.frame.place, act := .recvDone c rr })
                ⟨rfl, rfl⟩ ⟨rfl, rfl⟩ ⟨rfl, rfl⟩ ⟨rfl, rfl⟩
              refine ⟨_, _, _, _, s, ρ', fl', W, Rr, hst.trans hrt, rel2_left (Nat.lt_succ_self s), ?_⟩
              rw [ofEvents_nil, Array.empty_append]
              exact hPI
          · -- at a go statement
            have hrt := runT_crowd_spawn (P := P) (sl := sl') (i := 0) hi (by exact hstep)
            obtain ⟨ρ', fl', W', Rr', hPI⟩ := h.start (g := g) hk hf h.rK hRx hm hc (x1 := { g := 0, fn := g.frame.fn, pos := g.frame.place, act := .go gs.size }) (x2 := { g := gs.size, fn := child.frame.fn, pos := g.frame.place, act := .start }) ⟨rfl, rfl⟩ ⟨rfl, rfl⟩
            refine ⟨_, _, _, _, s, ρ', fl', W', Rr', hst.trans hrt, rel2_left (Nat.lt_succ_self s), ?_⟩
            rw [ofEvents_nil]
            exact hPI
    · have h0 : i ≠ 0 := by have := h.bpos; omega
      have hi0 : (i == 0) = false := by simp [h0]
      cases τ with
      | step u =>
        obtain ⟨_, hk⟩ := hw
        obtain ⟨g', w', es, M', hs, hd, hw'⟩ := hk (w.at d) (RelyW.refl _ _)
        have hrt := runT_crowd_go (P := P) (sl := sl') (i := i) hi (by rw [hi0]; exact hs)
        exact ⟨_, _, _, _, s, _, fl, _, Rr, hst.trans hrt, rel2_right hb (by rw [hr]; exact rel1_left (.mk u _)), h.own hi hf hd (.run1 hbi hw')⟩
      | stop =>
        obtain ⟨_, g2, z, q, hstep, hq, hfl⟩ := hw (w.at d) (RelyW.refl _ _)
        obtain ⟨rr, tm, hch⟩ := h.chan
        by_cases hne : partners (gs.setIfInBounds i ph) c false = []
        · have hrt := crowd_waits (P := P) (sl := sl') hi (by rw [hi0]; exact hstep) (fun cc hcc => by
            simp at hcc
            subst hcc
            exact ways_send_none hch (Nat.zero_le _) hne)
          refine ⟨_, _, _, _, s, _, _, W, Rr, hst.trans hrt, rel2_right hb (by rw [hr]; exact rel1_right Nat.zero_lt_one), h.park (g := g) hi hf (.blk1 hbi rfl hq hfl) ⟨fun e => absurd e h0, fun _ hf0 => ?_⟩⟩
          have := h.receiver_in h0 hf0
          rw [hne] at this
          cases this
        · obtain ⟨j, gj, zj, shj, d2, hj0, hj, hrt⟩ := crowd_send_meets_some (P := P) (sl := sl') hi (by rw [hi0]; exact hstep) hch hne (fun j m hp => by
            obtain ⟨h1, h2, rfl, _, s', g2, z, _, _, h3, _⟩ := h.receivers hp
            exact ⟨h1, h2, g2, z, _, h3⟩)
          have hgj := h.gsx j _ hj
          have hfj : fl j = .blk := by
            obtain ⟨e1, e2, e3⟩ := hgj.status
            cases hfj : fl j with
            | blk => rfl
            | run => have := e1 hfj; cases this
            | out => rcases e3 hfj with h | h <;> cases h
          rw [hfj] at hgj
          rcases hgj.blk_inv with ⟨rfl, _, s', g3, z3, rfl, hk, hpk, hgo⟩ | ⟨_, g3, z3, q3, hpk, _⟩
          · simp only [parked, Goroutine.mk.injEq, Option.some.injEq, Prod.mk.injEq, Array.mk.injEq, List.cons.injEq, rcase, CommCase.mk.injEq] at hpk
            obtain ⟨p1, p2, _, p4, ⟨⟨_, _, p6⟩, _⟩, p7⟩ := hpk
            subst p7
            have e1 : gj.finishComm P #[rcase c zj] (.recv false) 0 (.bool true) true = Go.Conc.served g3 (.bool true) := by
              rw [finishComm_recv]
              unfold Go.Conc.served
              rw [p1]
              obtain ⟨gf, gc, gst, gd, gof⟩ := gj
              obtain ⟨gf3, gc3, gst3, gd3, gof3⟩ := g3
              simp only at p1 p2 p4
              subst p1; subst p2; subst p4
              rfl
            rw [e1, finishComm_send] at hrt
            have hmm := hgo (((w.at d).at d2).setChan c 0 #[] false (rr + 1) (rr + 1) tm) (RelyW.chan (fun y hy => (h.bnd 0 h.act0 y (hy.imp id (by rw [h.rK]; exact id))).2.2) h.one)
            obtain ⟨ρ', fl', hPI⟩ := h.meet (d := d2) (gs' := (gs.setIfInBounds 0 (Go.Conc.served g3 (.bool true))).setIfInBounds i (Go.Conc.served g2 undef)) hk hbi hlt (by rw [hf]; simp) hch (by simp) (by rw [Array.getElem?_setIfInBounds_self_of_lt (by simpa using hlt)])
              (by rw [Array.getElem?_setIfInBounds_ne h0, Array.getElem?_setIfInBounds_self_of_lt h.lt]) (fun y e1 e2 => by rw [Array.getElem?_setIfInBounds_ne (fun e => e1 e.symm), Array.getElem?_setIfInBounds_ne (fun e => e2 e.symm)]) hq hfl h.rK hmm
              (x1 := { g := i, fn := g2.frame.fn, pos := g2.frame.place, act := .send c rr }) (x2 := { g := 0, fn := gj.frame.fn, pos := gj.frame.place, act := .recv c rr 0 }) (x3 := { g := i, fn := g2.frame.fn, pos := g2.frame.place, act := .sendDone c rr }) (x4 := { g := 0, fn := gj.frame.fn, pos := gj.frame.place, act := .recvDone c rr })
              ⟨rfl, rfl⟩ ⟨rfl, rfl⟩ ⟨rfl, rfl⟩ ⟨rfl, rfl⟩
            refine ⟨_, _, _, _, s', ρ', fl', W, Rr, hst.trans hrt, rel2_left (Nat.lt_succ_self s'), ?_⟩
            rw [ofEvents_nil, Array.empty_append]
            exact hPI
          · simp [parked, rcase, scase] at hpk
end
end Go.Proofs.Ytpigjhagdpeofaa.Sim

namespace Go.Proofs.Ytpigjhagdpeofaa.Sim
open Go Go.Conc
set_option linter.unusedVariables false
section
variable {P : Program} {o c n k b : Nat} {F : Nat → Int} {K : Nat → Prop} {Fin : (Nat → Prop) → Goroutine → World → Prop}

theorem all_one {f : Nat → Nat} (hf : ∀ y, f y ≤ 1) : ∀ j, ConcN.sumTo j f = j → ∀ y, y < j → f y = 1 := by
  intro j
  induction j with
  | zero => intro _ y hy; omega
  | succ j ih =>
    intro h y hy
    simp only [ConcN.sumTo] at h
    have h1 := hf j
    have h2 : ConcN.sumTo j f ≤ j := by
      have := Go.ConcN.sumTo_le (f := f) (c := 1) (j := j) fun i _ => hf i
      omega
    by_cases e : y = j
    · subst e; omega
    · exact ih (by omega) y (by omega)
def Ends (P : Program) (o n : Nat) (F : Nat → Int) (Fin : (Nat → Prop) → Goroutine → World → Prop) (m : Machine) (t : Trace) : Prop :=
  ∃ N gs' g' w' sl' t' M', runNT P N m t = (.next (crowd gs' w' sl'), t') ∧ Bsd P gs' g' w' t' ∧ g'.status = .running ∧ Fin M' g' w' ∧ (∃ cs, w'.heap[o]? = some (.cells cs 2 (0, 0)) ∧ cs.size = n) ∧ ∀ p, p < n → w'.cell? ⟨o, p, none⟩ = some (.int .i64 (F p))
theorem PI.ended {ρ : Nat → Tr × Nat} {gs : Array Goroutine} {w : World} {t : Trace} {fl : Nat → Fl} {W Rr : Nat → Nat → Prop} (hk : 0 < k) (h : PI P o c n k b F K Fin 0 ρ gs w t fl W Rr) (hf : fl 0 = .run) (hρ : (ρ 0).1 = .stop) (sl : Option (Nat × Nat)) : Ends P o n F Fin (crowd gs w sl) t := by
  have h0 := Array.getElem?_eq_getElem h.lt
  have hg := h.gsx 0 _ h0
  have hst : stt k 0 = k := by unfold stt; rw [if_neg (by omega)]
  have hc := h.cnt
  have hrc : rcv k 0 = k := by unfold rcv; rw [if_neg (by omega)]; rfl
  rw [hst, hrc] at hc
  have hsz := h.size
  rw [hst] at hsz
  have hout : ∀ x, 0 < x → x < gs.size → fl x = .out := by
    intro x hx hxs
    have hgx := h.gsx x _ (Array.getElem?_eq_getElem hxs)
    apply Classical.byContradiction
    intro hne
    rcases hgx.side.2 hne with e | e
    · omega
    · have := all_one (f := fun y => outs (fl (b + y))) (fun y => by unfold outs; split <;> omega) k hc (x - b) (by omega)
      have e2 : b + (x - b) = x := by omega
      simp only [e2] at this
      unfold outs at this
      rw [if_neg hne] at this
      cases this
  rw [hf] at hg
  rcases hg.run_inv with ⟨_, hK, τ, hr, hw⟩ | ⟨e, _⟩
  · rw [hr] at hρ
    have hρ : τ = .stop := hρ
    subst hρ
    have hS := hw w (RelyW.refl _ _)
    refine ⟨0, gs, _, w, sl, t, W 0, rfl, ⟨h0, fun x hx hxp hxg => ?_, h.ti.past fun x hx => ?_, h.ti.words⟩, hS.1, hS.2, h.row, fun p hp => ?_⟩
    · have hlt := (Array.getElem?_eq_some_iff.1 hxg).1
      obtain ⟨_, q, hq, _⟩ := (h.gsx x _ hxg).side.1 (hout x hxp hlt)
      exact ⟨q, hq⟩
    · apply Classical.byContradiction
      intro hne
      exact hx.2 (hout x (by omega) hx.1)
    · have hm := Nat.mod_lt p hk
      have hlt : b + p % k < gs.size := by omega
      have hbp := h.bpos
      obtain ⟨_, q, _, hfl, _⟩ := (h.gsx (b + p % k) _ (Array.getElem?_eq_getElem hlt)).side.1 (hout _ (by omega) hlt)
      exact hfl p hp ⟨by omega, by omega⟩
  · have := h.bpos
    omega
theorem PI.runs (hk : 0 < k) : ∀ (μ : Nat × (Nat → Tr × Nat)) {gs : Array Goroutine} {w : World} {t : Trace} {fl : Nat → Fl} {W Rr : Nat → Nat → Prop} (sl : Option (Nat × Nat)), PI P o c n k b F K Fin μ.1 μ.2 gs w t fl W Rr → Ends P o n F Fin (crowd gs w sl) t := by
  intro μ
  induction μ using (rel2_wf (b + k)).induction with
  | _ μ ih =>
    intro gs w t fl W Rr sl h
    obtain ⟨s, ρ⟩ := μ
    by_cases hnt : s = 0 ∧ fl 0 = .run ∧ (ρ 0).1 = .stop
    · obtain ⟨rfl, hf, hρ⟩ := hnt
      exact PI.ended hk h hf hρ sl
    · obtain ⟨gs', w', sl', ops, s', ρ', fl', W', Rr', h1, h2, h3⟩ := PI.step h hnt sl
      obtain ⟨N, gs2, g2, w2, sl2, t2, M2, h4, h5⟩ := ih (s', ρ') h2 sl' h3
      exact ⟨N + 1, gs2, g2, w2, sl2, t2, M2, by simp only [runNT, h1]; exact h4, h5⟩
/-- The phase. -/
theorem phase (hk : 0 < k) {gs : Array Goroutine} {g : Goroutine} {w : World} {t : Trace} {M : Nat → Prop} {sl : Option (Nat × Nat)} (h : Bsd P gs g w t) (hb : gs.size = b) (hch : ∃ r tm, w.heap[c]? = some (.chan 0 #[] false r r tm)) (hrow : ∃ cs, w.heap[o]? = some (.cells cs 2 (0, 0)) ∧ cs.size = n)
    (hM : ∀ y, M y ∨ K y → y < w.heap.size ∧ y ≠ o ∧ y ≠ c) (hm : WkG P true (RW o k b 0 K) (DW o k b 0 K) (S0 P o c n k b F K Fin (2 * k)) M g w) : Ends P o n F Fin (crowd gs w sl) t := by
  obtain ⟨τ, hτ⟩ := hm.tree
  have hq : ∀ x, ∃ q, ∀ h, 0 < x → gs[x]? = some h → QuitsIn P q h := by
    intro x
    cases hx : gs[x]? with
    | none => exact ⟨0, fun h _ e => by cases e⟩
    | some y =>
      by_cases h0 : 0 < x
      · obtain ⟨q, hq⟩ := h.rest x y h0 hx
        exact ⟨q, fun h _ e => by cases e; exact hq⟩
      · exact ⟨0, fun h h1 => absurd h1 h0⟩
  have hlt : 0 < gs.size := (Array.getElem?_eq_some_iff.1 h.zero).1
  have hst : stt k (2 * k) = 0 := by unfold stt; rw [if_pos (by omega)]; omega
  have hact : ∀ x, act gs.size (ConcN.upd (fun _ => Fl.out) 0 .run) x ↔ x = 0 := by
    intro x
    unfold act
    by_cases e : x = 0
    · subst e; rw [ConcN.upd_same]; simp [hlt]
    · rw [ConcN.upd_ne _ _ e]; simp [e]
  refine PI.runs (c := c) (b := b) (K := K) hk (2 * k, ConcN.upd (fun x => (.stop, (hq x).choose)) 0 (τ, 1)) (t := t) (fl := ConcN.upd (fun _ => .out) 0 .run) (W := ConcN.upd (fun _ _ => False) 0 M) (Rr := ConcN.upd (fun _ _ => False) 0 K) sl ?_
  refine ⟨by rw [hst, hb]; rfl, Nat.le_refl _, by omega, fun x gx hx => ?_, ?_, fun e => ?_, hch, hrow, fun x x' hx hx' hne => ?_, fun x hx y hy => ?_, ?_⟩
  · by_cases e : x = 0
    · subst e
      rw [h.zero] at hx
      cases hx
      dsimp only
      rw [ConcN.upd_same, ConcN.upd_same, ConcN.upd_same, ConcN.upd_same]
      exact .run0 rfl rfl hτ
    · dsimp only
      rw [ConcN.upd_ne (fun _ => Fl.out) _ e, ConcN.upd_ne _ (τ, 1) e]
      refine .out e ((hq x).choose_spec gx (by omega) hx) fun p hp hc => ?_
      have := (Array.getElem?_eq_some_iff.1 hx).1
      have := hc.1
      omega
  · show ConcN.sumTo (stt k (2 * k)) _ = rcv k (2 * k)
    rw [hst]
    unfold rcv
    rw [if_pos (by omega)]
    rfl
  · rw [ConcN.upd_same] at e; cases e
  · exact absurd (((hact x).1 hx).trans ((hact x').1 hx').symm) hne
  · have e := (hact x).1 hx
    subst e
    rw [ConcN.upd_same, ConcN.upd_same] at hy
    exact hM y hy
  · exact (TI.of_past h.past h.words _).mono (Nat.le_refl _) fun x => (hact x).symm
end
end Go.Proofs.Ytpigjhagdpeofaa.Sim

namespace Go.Proofs.Ytpigjhagdpeofaa.Sim
open Go Go.Conc
set_option linter.unusedVariables false
section
variable {P : Program}

theorem evL_of_evC {C : Addr → Bool → Prop} {B : Nat} {e : Event} (h : EvC C B e) : EvL (fun _ => False) B e := by
  rcases h with rfl | ⟨a, wr, rfl, _, h2⟩
  · refine ⟨fun x hx => ?_, by simp, by simp, ?_⟩
    · simp [MemAct.ofEvent, MemAct.touch?] at hx
    · simp [MemAct.ofEvent, MemAct.low]
  · exact evL_cell a wr (fun h => h) h2
theorem wordless_evC {C : Addr → Bool → Prop} {B g : Nat} {fn : FuncId} {pos : String} {es : Array Event} (h : ∀ e ∈ es, EvC C B e) : Wordless (MemOp.ofEvents g fn pos es) := fun op hop m hm => by
  obtain ⟨e, he, rfl⟩ := memOf hop
  exact word_evC (h e he) hm
/-- Goroutine 0's own step. -/
theorem Bsd.own {gs : Array Goroutine} {g g' : Goroutine} {w w' : World} {t : Trace} {fn : FuncId} {pos : String} {es : Array Event} {C : Addr → Bool → Prop} (h : Bsd P gs g w t) (hB : w.heap.size ≤ w'.heap.size) (hes : ∀ e ∈ es, EvC C w'.heap.size e) :
    Bsd P ((gs.map (Go.Conc.woken P g g' w')).setIfInBounds 0 g') g' w' (t ++ MemOp.ofEvents 0 fn pos es) := by
  have hlt : 0 < gs.size := (Array.getElem?_eq_some_iff.1 h.zero).1
  refine ⟨by rw [Array.getElem?_setIfInBounds_self_of_lt (by simpa using hlt)], fun x y hx hy => ?_, (h.past.mono hB).own fun e he => evL_of_evC (hes e he), h.words.append (wordless_evC hes)⟩
  rcases get_step hlt hy with ⟨rfl, _⟩ | ⟨hne, z, hz, rfl⟩
  · omega
  · obtain ⟨q, hq⟩ := h.rest x z hx hz
    refine ⟨q, ?_⟩
    have e : Go.Conc.woken P g g' w' z = z := by
      unfold Go.Conc.woken
      split
      · exact again_running _ hq.status
      · rfl
    rw [e]
    exact hq
theorem Bsd.at {gs : Array Goroutine} {g : Goroutine} {w : World} {t : Trace} (h : Bsd P gs g w t) (d : Nat) : Bsd P gs g (w.at d) t := ⟨h.zero, h.rest, h.past, h.words⟩

def Come {I : Type} (P : Program) (S : I → Goroutine → World → Prop) (J : I → World → Prop) (N0 : Nat) (m : Machine) (t : Trace) : Prop :=
  ∃ N gs' g' w' sl' t' i', runNT P N m t = (.next (crowd gs' w' sl'), t') ∧ gs'.size = N0 ∧ Bsd P gs' g' w' t' ∧ J i' w' ∧ S i' g' w'
theorem walk_bsd {I : Type} {R : I → World → World → Prop} {D : I → I → World → World → Array Event → Prop} {S : I → Goroutine → World → Prop} {J : I → World → Prop} {C : Addr → Bool → Prop} (T : TermsG R D) (hat : ∀ i w d, R i w (w.at d)) (hJ : ∀ i w d, J i w → J i (w.at d))
    (hD : ∀ i j w w' es, J i w → D i j w w' es → J j w' ∧ w.heap.size ≤ w'.heap.size ∧ ∀ e ∈ es, EvC C w'.heap.size e) (hSr : ∀ i g w, S i g w → g.status = .running) (N0 : Nat) :
    ∀ (ρ : Nat → Tr × Nat) {gs : Array Goroutine} {g : Goroutine} {w : World} {t : Trace} {i : I} (sl : Option (Nat × Nat)), gs.size = N0 → Bsd P gs g w t → J i w → WkT P true R D S (ρ 0).1 i g w → (∀ x h, 0 < x → gs[x]? = some h → (ρ x).1 = .stop ∧ QuitsIn P (ρ x).2 h) →
      Come P S J N0 (crowd gs w sl) t := by
  intro ρ
  induction ρ using (Low.wf rel1_wf N0).induction with
  | _ ρ ih =>
    intro gs g w t i sl hN h hj hw hq
    have hlt : 0 < gs.size := (Array.getElem?_eq_some_iff.1 h.zero).1
    cases hτ : (ρ 0).1 with
    | stop =>
      rw [hτ] at hw
      exact ⟨0, gs, g, w, sl, t, i, rfl, hN, h, hj, by have := hw (w.at w.drawn) (hat _ _ _); exact this⟩
    | step u =>
      rw [hτ] at hw
      obtain ⟨hrun, hk⟩ := hw
      have haw : ∀ x ∈ gs, awake x := by
        intro x hx
        obtain ⟨y, hy, rfl⟩ := Array.mem_iff_getElem.1 hx
        rcases Nat.eq_zero_or_pos y with rfl | hpos
        · have : gs[0] = g := by have := h.zero; rw [Array.getElem?_eq_getElem hy] at this; exact Option.some.inj this
          rw [this]; exact awake_of (.inl hrun)
        · exact awake_of ((hq y _ hpos (Array.getElem?_eq_getElem hy)).2.status.elim .inl fun x => .inr (.inr x))
      obtain ⟨x, gx, d, sl', hx, hgx, hst⟩ := crowd_pick (P := P) (w := w) (sl := sl) haw ⟨0, g, h.zero, hrun⟩
      have hxlt : x < gs.size := (Array.getElem?_eq_some_iff.1 hx).1
      rcases Nat.eq_zero_or_pos x with rfl | hpos
      · have e : gx = g := by rw [h.zero] at hx; exact (Option.some.inj hx).symm
        subst e
        obtain ⟨g', w', es, j, hs, hd, hw'⟩ := hk (w.at d) (hat _ _ _)
        obtain ⟨hj', hB, hes⟩ := hD _ _ _ _ _ (hJ _ _ d hj) hd
        have hrt := runT_crowd_go (P := P) (sl := sl') (i := 0) hx hs
        have hsz : ((gs.map (Go.Conc.woken P gx g' w')).setIfInBounds 0 g').size = gs.size := by simp
        have hb := (h.at d).own (g' := g') (fn := gx.frame.fn) (pos := gx.frame.place) hB hes
        obtain ⟨N, gs2, g2, w2, sl2, t2, i2, h1, h2⟩ := ih (ConcN.upd ρ 0 (u (w.at d), 0)) ⟨0, by omega, by
            rw [ConcN.upd_same]
            have : ρ 0 = (.step u, (ρ 0).2) := by rw [← hτ]
            rw [this]
            exact rel1_left (.mk u _), fun y hy => ConcN.upd_ne _ _ hy⟩ (i := j) sl' (hsz.trans hN) hb hj' (by rw [ConcN.upd_same]; exact hw') (fun y z hy hz => by
            rw [ConcN.upd_ne _ _ (by omega)]
            rcases get_step hlt hz with ⟨rfl, _⟩ | ⟨hne, z', hz', rfl⟩
            · omega
            · obtain ⟨q1, q2⟩ := hq y z' hy hz'
              refine ⟨q1, ?_⟩
              have e : Go.Conc.woken P gx g' w' z' = z' := by
                unfold Go.Conc.woken
                split
                · exact again_running _ q2.status
                · rfl
              rw [e]
              exact q2)
        exact ⟨N + 1, gs2, g2, w2, sl2, t2, i2, by simp only [runNT, hst, hrt]; exact h1, h2⟩
      · obtain ⟨q1, q2⟩ := hq x gx hpos hx
        cases hqx : (ρ x).2 with
        | zero => rw [hqx] at q2; rw [show gx.status = .finished from q2] at hgx; cases hgx
        | succ q =>
          rw [hqx] at q2
          rcases q2 with q2 | ⟨_, g', hstep, q3⟩
          · rw [q2] at hgx; cases hgx
          have hx0 : (x == 0) = false := by simp; omega
          have hrt := runT_crowd_go (P := P) (sl := sl') (i := x) hx (by rw [hx0]; exact hstep (w.at d))
          have hsz : ((gs.map (Go.Conc.woken P gx g' (w.at d))).setIfInBounds x g').size = gs.size := by simp
          have hall : ∀ y z, 0 < y → ((gs.map (Go.Conc.woken P gx g' (w.at d))).setIfInBounds x g')[y]? = some z → (ConcN.upd ρ x (.stop, q) y).1 = .stop ∧ QuitsIn P (ConcN.upd ρ x (.stop, q) y).2 z := by
            intro y z hy hz
            rcases get_step hxlt hz with ⟨rfl, rfl⟩ | ⟨hne, z', hz', rfl⟩
            · rw [ConcN.upd_same]; exact ⟨rfl, q3⟩
            · rw [ConcN.upd_ne _ _ hne]
              obtain ⟨a1, a2⟩ := hq y z' hy hz'
              refine ⟨a1, ?_⟩
              have e : Go.Conc.woken P gx g' (w.at d) z' = z' := by
                unfold Go.Conc.woken
                split
                · exact again_running _ a2.status
                · rfl
              rw [e]
              exact a2
          have hz0 : ((gs.map (Go.Conc.woken P gx g' (w.at d))).setIfInBounds x g')[0]? = some g := by
            rw [Array.getElem?_setIfInBounds_ne (by omega), Array.getElem?_map, h.zero]
            simp [woken_run hrun]
          obtain ⟨N, gs2, g2, w2, sl2, t2, i2, h1, h2⟩ := ih (ConcN.upd ρ x (.stop, q)) ⟨x, by omega, by
              rw [ConcN.upd_same]
              have : ρ x = (.stop, q + 1) := by rw [← q1, ← hqx]
              rw [this]
              exact rel1_right (Nat.lt_succ_self q), fun y hy => ConcN.upd_ne _ _ hy⟩ (g := g) (w := w.at d) (i := i) sl' (hsz.trans hN) ⟨hz0, fun y z hy hz => ⟨_, (hall y z hy hz).2⟩, h.past, h.words⟩ (hJ _ _ d hj) (by
              rw [ConcN.upd_ne _ _ (by omega), hτ]
              exact ⟨hrun, fun w1 h1 => hk w1 (T.trans _ _ _ _ (hat _ _ d) h1)⟩) hall
          refine ⟨N + 1, gs2, g2, w2, sl2, t2, i2, ?_, h2⟩
          simp only [runNT, hst, hrt]
          rw [ofEvents_nil, Array.append_empty]
          exact h1
/-- The walk beside goroutines that only leave. -/
theorem WkG.bsd {I : Type} {R : I → World → World → Prop} {D : I → I → World → World → Array Event → Prop} {S : I → Goroutine → World → Prop} {J : I → World → Prop} {C : Addr → Bool → Prop} (T : TermsG R D) (hat : ∀ i w d, R i w (w.at d)) (hJ : ∀ i w d, J i w → J i (w.at d))
    (hD : ∀ i j w w' es, J i w → D i j w w' es → J j w' ∧ w.heap.size ≤ w'.heap.size ∧ ∀ e ∈ es, EvC C w'.heap.size e) (hSr : ∀ i g w, S i g w → g.status = .running)
    {gs : Array Goroutine} {g : Goroutine} {w : World} {t : Trace} {i : I} {sl : Option (Nat × Nat)} (h : Bsd P gs g w t) (hj : J i w) (hw : WkG P true R D S i g w) : Come P S J gs.size (crowd gs w sl) t := by
  obtain ⟨τ, hτ⟩ := hw.tree
  have hq : ∀ x, ∃ q, ∀ h, 0 < x → gs[x]? = some h → QuitsIn P q h := by
    intro x
    cases hx : gs[x]? with
    | none => exact ⟨0, fun h _ e => by cases e⟩
    | some y =>
      by_cases h0 : 0 < x
      · obtain ⟨q, hq⟩ := h.rest x y h0 hx
        exact ⟨q, fun h _ e => by cases e; exact hq⟩
      · exact ⟨0, fun h h1 => absurd h1 h0⟩
  refine walk_bsd T hat hJ hD hSr gs.size (ConcN.upd (fun x => (.stop, (hq x).choose)) 0 (τ, 1)) sl rfl h hj (by rw [ConcN.upd_same]; exact hτ) fun x y hx hy => ?_
  rw [ConcN.upd_ne _ _ (by omega)]
  exact ⟨rfl, (hq x).choose_spec y hx hy⟩
end
end Go.Proofs.Ytpigjhagdpeofaa.Sim

namespace Go.Proofs.Ytpigjhagdpeofaa.Sim
open Go Go.Conc
set_option linter.unusedVariables false
set_option maxRecDepth 100000
def b54 : Frame := { (default : Frame) with fn := 54, kind := .deferred }
noncomputable def bot54 : Frame := { (default : Frame) with fn := Try.prog.funcs.size, defers := [], mode := .panicking [goexitEntry] }
def d54 (bw bl bk bh bo bd : Nat) : Deferred := { target := .fn (.func 54) #[.pointer (some ⟨bw, 0, none⟩), .pointer (some ⟨bl, 0, none⟩), .pointer (some ⟨bk, 0, none⟩), .pointer (some ⟨bh, 0, none⟩), .pointer (some ⟨bo, 0, none⟩), .pointer (some ⟨bd, 0, none⟩)], args := #[] }
noncomputable def R4 : Code := match Try.f54.body with | some (.seq _ r) => r | _ => .skip
noncomputable def ops4 : Array Oper := match R4 with | .region _ ops _ => ops | _ => #[]
noncomputable def o4a : Oper := { dst := some 24, op := .load 71 (.tmp 5), type := 71, pos := placed ops4 0, after := #[], guard := none }
theorem ops4_0 : ops4[0]? = some o4a := by kernel_rfl
noncomputable def o4b : Oper := { dst := none, op := .send (.tmp 24) (.const (.bool true)), type := 0, pos := placed ops4 1, after := #[{ on := 0, ground := Ground.data }], guard := none }
theorem ops4_1 : ops4[1]? = some o4b := by kernel_rfl
theorem born_step54 (bw bl bk bh bo bd : Nat) (w : World) : stepG Try.prog false (born Try.prog (d54 bw bl bk bh bo bd)) w = .go (G (b54.at ⟨(#[.pointer (some ⟨bw, 0, none⟩), .pointer (some ⟨bl, 0, none⟩), .pointer (some ⟨bk, 0, none⟩), .pointer (some ⟨bh, 0, none⟩), .pointer (some ⟨bo, 0, none⟩), .pointer (some ⟨bd, 0, none⟩), undef, undef, undef, undef, undef, undef, undef, undef, undef, undef, undef, undef, undef, undef, undef, undef, undef, undef, undef] : Array Value), []⟩ [.code (.seq A54 R4)]) [bot54]) w #[] := by
  simp [born, d54, stepG, unwind, callDeferred, invoke, callFunc, Try.func54, Try.f54, seen, GStep.after, G, Frame.enter, Frame.at, b54, bot54, A54, R4]
theorem quits54 (a : Act) (ha : a.defers = []) : QuitsIn Try.prog 4 (G (b54.at a [.inRegion ops4 []]) [bot54]) := by
  refine .inr ⟨rfl, _, fun w => stepG_region_end, ?_⟩
  refine .inr ⟨rfl, _, fun w => stepG_end, ?_⟩
  refine .inr ⟨rfl, G bot54 [], fun w => ?_, ?_⟩
  · simp [G, stepG, unwind, doReturn, results, Frame.at, b54, bot54, Try.func54, Try.f54, seen, GStep.after, goexitEntry, ha]
  refine .inr ⟨rfl, { G bot54 [] with status := .finished }, fun w => ?_, rfl⟩
  simp [G, stepG, unwind, bot54, goexitEntry, Frame.catches]
  rfl
theorem cls_fun {b k x : Nat} (h : b ≤ x) : cls b k x = fun p => p % k = x - b := by
  funext p
  exact propext ⟨fun h => h.2, fun h' => ⟨h, h'⟩⟩
theorem worker54 {o n k b x c : Nat} {Rd : Nat → Prop} {F L : Nat → Int} {M : Nat → Prop} {w0 w : World} {bw bl bk bh bo bd gl cl co : Nat} {al : Option Addr} {f : FuncId} {caps : Array Value}
    (hn : n < 1000000000) (hk0 : 0 < k) (hk8 : k ≤ 8) (hb : b ≤ x) (hx : x - b < k)
    (dw : Rd bw) (dl : Rd bl) (dk : Rd bk) (dh : Rd bh) (dO : Rd bo) (dd : Rd bd) (dg : Rd gl)
    (cw : w0.cell? ⟨bw, 0, none⟩ = some (.int .i64 ((x - b : Nat) : Int))) (c_l : w0.cell? ⟨bl, 0, none⟩ = some (.slice al n cl)) (hal : 0 < n → al = some ⟨gl, 0, none⟩) (ck : w0.cell? ⟨bk, 0, none⟩ = some (.int .i64 (k : Nat)))
    (ch : w0.cell? ⟨bh, 0, none⟩ = some (.func (.func f) #[] caps)) (cO : w0.cell? ⟨bo, 0, none⟩ = some (.slice (some ⟨o, 0, none⟩) n co)) (cd : w0.cell? ⟨bd, 0, none⟩ = some (.chan (some c))) (cL : ∀ j, j < n → w0.cell? ⟨gl, j, none⟩ = some (.int .i64 (L j)))
    (hs : Sat o n k (x - b) Rd F w0 M w 0) (hE : Ent f)
    (hcall : ∀ i, i < n → i % k = x - b → ∀ base M w, Sat o n k (x - b) Rd F w0 M w i → WkG Try.prog false (RW o k b x Rd) (DW o k b x Rd) (RetG Try.prog (DW o k b x Rd) base fun v M' w' => v = .int .i64 (F i) ∧ Sat o n k (x - b) Rd F w0 M' w' i) M (G (Frame.enter Try.prog f (#[.int .i64 (L i)] ++ caps) .normal) base) w) :
    WkG Try.prog false (RW o k b x Rd) (DW o k b x Rd) (SW Try.prog o c n k b F x) M (born Try.prog (d54 bw bl bk bh bo bd)) w := by
  have T := OwnW.terms (o := o) (mine := cls b k x) (Rd := Rd)
  refine WkG.idle T rfl (born_step54 bw bl bk bh bo bd) ?_
  refine WkG.idle T rfl (fun w => stepG_seq) ?_
  have key := w54 (m := false) (bd := bd) hn hk0 hk8 hx (Nat.mod_eq_of_lt hx) dw dl dk dh dO dg cw c_l hal ck ch cO cL hs hE (by
    unfold RW DW at hcall
    rw [cls_fun hb] at hcall
    exact hcall)
  rw [← cls_fun hb] at key
  refine key b54 [.code R4] [bot54] _ rfl (by decide) fun e a M w q => ?_
  obtain ⟨rfl, i, u7, u8, u9, u10, u11, u12, u13, u14, u15, u16, u17, u18, u19, u20, u21, u22, u23, u24, rfl, hin, hs⟩ := q
  show WkG _ _ _ _ _ _ (G (b54.at _ [.code (.region 4 ops4 false)]) _) _
  refine WkG.idle T rfl (fun w => stepG_region) ?_
  show WkG _ _ _ _ _ _ (G (b54.at _ (.inRegion ops4 (0 :: [1]) :: [])) _) _
  refine WkG.step rfl fun w1 h1 => ?_
  replace hs := hs.rely (by rw [cls_fun hb] at h1; exact h1)
  have hc1 := hs.cell dd cd
  refine ⟨_, _, _, M, stepG_value (v := .chan (some c)) ops4_0 rfl (by decide) (by simp [o4a, go_sem, hc1]), OwnW.same M rfl rfl rfl rfl fun e he => ?_, ?_⟩
  · replace he := mem_listed he
    simp [o4a, go_sem, hc1] at he
    subst he
    exact ⟨_, rfl, .inr (.inl dd)⟩
  show WkG _ _ _ _ _ _ (G (b54.at ⟨(#[.pointer (some ⟨bw, 0, none⟩), .pointer (some ⟨bl, 0, none⟩), .pointer (some ⟨bk, 0, none⟩), .pointer (some ⟨bh, 0, none⟩), .pointer (some ⟨bo, 0, none⟩), .pointer (some ⟨bd, 0, none⟩), .int .i64 (i : Nat), u7, u8, u9, u10, u11, u12, u13, u14, u15, u16, u17, u18, u19, u20, u21, u22, u23, .chan (some c)] : Array Value), []⟩ (.inRegion ops4 (1 :: []) :: [])) _) _
  refine .stop fun w2 h2 => ?_
  replace hs := hs.rely (by rw [cls_fun hb] at h2; exact h2)
  unfold SW
  refine ⟨rfl, G (b54.at ⟨(#[.pointer (some ⟨bw, 0, none⟩), .pointer (some ⟨bl, 0, none⟩), .pointer (some ⟨bk, 0, none⟩), .pointer (some ⟨bh, 0, none⟩), .pointer (some ⟨bo, 0, none⟩), .pointer (some ⟨bd, 0, none⟩), .int .i64 (i : Nat), u7, u8, u9, u10, u11, u12, u13, u14, u15, u16, u17, u18, u19, u20, u21, u22, u23, .chan (some c)] : Array Value), []⟩ (.inRegion ops4 (1 :: []) :: [])) [bot54], .tuple #[], 4, ?_, ?_, fun p hp hpc => ?_⟩
  rotate_left
  · have e : Go.Conc.served (G (b54.at ⟨(#[.pointer (some ⟨bw, 0, none⟩), .pointer (some ⟨bl, 0, none⟩), .pointer (some ⟨bk, 0, none⟩), .pointer (some ⟨bh, 0, none⟩), .pointer (some ⟨bo, 0, none⟩), .pointer (some ⟨bd, 0, none⟩), .int .i64 (i : Nat), u7, u8, u9, u10, u11, u12, u13, u14, u15, u16, u17, u18, u19, u20, u21, u22, u23, .chan (some c)] : Array Value), []⟩ (.inRegion ops4 (1 :: []) :: [])) [bot54]) undef = G (b54.at ⟨(#[.pointer (some ⟨bw, 0, none⟩), .pointer (some ⟨bl, 0, none⟩), .pointer (some ⟨bk, 0, none⟩), .pointer (some ⟨bh, 0, none⟩), .pointer (some ⟨bo, 0, none⟩), .pointer (some ⟨bd, 0, none⟩), .int .i64 (i : Nat), u7, u8, u9, u10, u11, u12, u13, u14, u15, u16, u17, u18, u19, u20, u21, u22, u23, .chan (some c)] : Array Value), []⟩ [.inRegion ops4 []]) [bot54] := by
      rw [served_G]
      rfl
    rw [e]
    exact quits54 _ rfl
  · obtain ⟨cs, a1, a2, a3⟩ := hs.out
    have := a3 p (by omega) hpc.2 hp
    simp only [World.cell?, a1, Option.isSome_none, Bool.false_eq_true, if_false]
    exact this
  · rw [stepG_comm (cases := #[scase c (.bool true) (.tuple #[])]) (blocking := true) (shape := .send) (w' := w2) ops4_1 rfl (by decide) (by simp [o4b, execOp, scase, Act.eval])]
    simp [o4b, listed, execOp, seen]
end Go.Proofs.Ytpigjhagdpeofaa.Sim

namespace Go.Proofs.Ytpigjhagdpeofaa.Sim
open Go Go.Conc
set_option linter.unusedVariables false
set_option maxRecDepth 100000

section
variable {I : Type} {P : Program} {m : Bool} {R : I → World → World → Prop} {D : I → I → World → World → Array Event → Prop} {fn : FuncId} {ops : Array Oper} {Q : Exit → Act → I → World → Prop} {md : Region.Mode} {S : I → World → Prop}
theorem OpG.value {n : Nat} {K : Act → I → World → Prop} {a : Act} {i : I} {w : World} {o : Oper} (ho : ops[n]? = some o) (hw : Region.wanted o (yielded ops a.tmps) = true)
    (h : ∀ w1, R i w w1 → ∃ v w' j, (execOp a.eval o).run P w1 = .ok (.value v) w' ∧ D i j w1 w' (evG P fn a o w1) ∧ K (a.put o.dst v) j w') : OpG P m R D fn ops n K a i w := by
  unfold OpG
  simp only [ho, hw, if_true]
  intro w1 h1
  obtain ⟨v, w', j, hr, hd, hk⟩ := h w1 h1
  rw [hr]
  exact ⟨j, hd, hk⟩
/-- A drawn region by an invariant over what has been taken. -/
theorem anyG_inv {J : Nat → Array Bool → Act → I → World → Prop} (hS : ∀ c listed a i w, J c listed a i w → S i w) (h0 : ∀ c listed a i w, J c listed a i w → Region.ready md ops listed = [] → Q .normal a i w) (hz : ∀ listed a i w, J 0 listed a i w → Region.ready md ops listed = [])
    (hstep : ∀ c listed a i w n, J c listed a i w → n ∈ Region.ready md ops listed → OpG P m R D fn ops n (fun a' i' w' => ∃ c', c' < c ∧ J c' (listed.setIfInBounds n true) a' i' w') a i w) :
    ∀ fuel c listed a i w, c ≤ fuel → J c listed a i w → AnyG P m R D fn md ops Q S fuel listed a i w := by
  intro fuel
  induction fuel with
  | zero =>
    intro c listed a i w hc hj
    obtain rfl : c = 0 := by omega
    exact ⟨hz _ _ _ _ hj, h0 _ _ _ _ _ hj (hz _ _ _ _ hj)⟩
  | succ fuel ih =>
    intro c listed a i w hc hj
    refine ⟨fun h => h0 _ _ _ _ _ hj h, fun n hn => OpG_mono (fun a' i' w' ⟨c', h1, h2⟩ => ⟨hS _ _ _ _ _ h2, ih c' _ _ _ _ (by omega) h2⟩) (hstep _ _ _ _ _ n hj hn)⟩
end

/-! ### alone but for goroutines that only leave -/
def RA : Unit → World → World → Prop := fun _ w w1 => AtRel w w1
/-- Blocks below N stand. -/
structure DA (N : Nat) (w w' : World) (es : Array Event) : Prop where
  tape : w'.tape = w.tape
  os : w'.os = w.os
  output : w'.output = w.output
  size : w.heap.size ≤ w'.heap.size
  keep : ∀ c, c < N → w'.heap[c]? = w.heap[c]?
  evs : ∀ e ∈ es, EvC (fun _ _ => True) w'.heap.size e
theorem DA.terms (N : Nat) : TermsG RA (fun _ _ => DA N) := ⟨fun _ w => atRel_refl w, fun _ a b c h k => atRel_trans a b c h k, fun _ w => ⟨rfl, rfl, rfl, Nat.le_refl _, fun _ _ => rfl, fun e he => by simp at he⟩⟩
theorem DA.quiet {N : Nat} {w : World} {es : Array Event} (h : ∀ e ∈ es, EvC (fun _ _ => True) w.heap.size e) : DA N w w es := ⟨rfl, rfl, rfl, Nat.le_refl _, fun _ _ => rfl, h⟩
theorem DA.draw (N : Nat) (w : World) : DA N w { w with drawn := w.drawn + 1 } #[] := ⟨rfl, rfl, rfl, Nat.le_refl _, fun _ _ => rfl, fun e he => by simp at he⟩
theorem heap_alloc_old {w : World} {ob y : Obj} {x : Nat} (h : w.heap[x]? = some y) : (w.alloc ob).heap[x]? = some y := by
  have := (Array.getElem?_eq_some_iff.1 h).1
  simp only [World.alloc, Array.getElem?_push]
  rw [if_neg (by omega)]
  exact h
theorem heap_alloc_lt {w : World} {ob : Obj} {x : Nat} (h : x < w.heap.size) : (w.alloc ob).heap[x]? = w.heap[x]? := by
  simp only [World.alloc, Array.getElem?_push]
  rw [if_neg (by omega)]
theorem heap_alloc_at {w : World} {ob : Obj} : (w.alloc ob).heap[w.heap.size]? = some ob := by show (w.heap.push ob)[w.heap.size]? = some ob; simp
theorem size_alloc' {w : World} {ob : Obj} : (w.alloc ob).heap.size = w.heap.size + 1 := by show (w.heap.push ob).size = _; simp
theorem DA.alloc {N : Nat} {w : World} {ob : Obj} {es : Array Event} (hN : N ≤ w.heap.size) (h : ∀ e ∈ es, EvC (fun _ _ => True) w.heap.size e) : DA N w (w.alloc ob) es :=
  ⟨rfl, rfl, rfl, by rw [size_alloc']; omega, fun c hc => heap_alloc_lt (by omega), fun e he => by
    rcases h e he with h | ⟨a, wr, h1, h2, h3⟩
    · exact .inl h
    · exact .inr ⟨a, wr, h1, h2, by rw [size_alloc']; omega⟩⟩
theorem heap_set_ne {w : World} {b x : Nat} {v : Value} (h : x ≠ b) : (w.setCell ⟨b, 0, none⟩ v).heap[x]? = w.heap[x]? := by
  simp only [World.setCell, Array.getElem?_modify]
  rw [if_neg (fun e => h e.symm)]
theorem heap_set_at {w : World} {b : Nat} {v u : Value} {e : TypeId} (h : w.heap[b]? = some (.cells #[u] e (0, 0))) : (w.setCell ⟨b, 0, none⟩ v).heap[b]? = some (.cells #[v] e (0, 0)) := by
  simp only [World.setCell, Array.getElem?_modify, if_true, h]
  rfl
theorem DA.set {N b : Nat} {w : World} {v : Value} {es : Array Event} (hN : N ≤ b) (h : ∀ e ∈ es, EvC (fun _ _ => True) w.heap.size e) : DA N w (w.setCell ⟨b, 0, none⟩ v) es := by
  have hs : (w.setCell ⟨b, 0, none⟩ v).heap.size = w.heap.size := by simp [World.setCell]
  refine ⟨rfl, rfl, rfl, Nat.le_of_eq hs.symm, fun c hc => heap_set_ne (by omega), fun e he => ?_⟩
  rw [hs]
  exact h e he
theorem cell_of_row {w : World} {b : Nat} {v : Value} {e : TypeId} (h : w.heap[b]? = some (.cells #[v] e (0, 0))) : w.cell? ⟨b, 0, none⟩ = some v ∧ w.frozen? ⟨b, 0, none⟩ = false := by
  simp [World.cell?, World.frozen?, h]
end Go.Proofs.Ytpigjhagdpeofaa.Sim

namespace Go.Proofs.Ytpigjhagdpeofaa.Sim
open Go Go.Conc
set_option linter.unusedVariables false
set_option maxRecDepth 100000
/-- What has been laid on top of a world of N blocks. -/
structure Ext (N : Nat) (w0 w : World) : Prop where
  tape : w.tape = w0.tape
  os : w.os = w0.os
  output : w.output = w0.output
  size : N ≤ w.heap.size
  keep : ∀ c, c < N → w.heap[c]? = w0.heap[c]?
theorem Ext.at {N : Nat} {w0 w : World} (h : Ext N w0 w) (d : Nat) : Ext N w0 (w.at d) := ⟨h.tape, h.os, h.output, h.size, h.keep⟩
theorem Ext.da {N : Nat} {w0 w w' : World} {es : Array Event} (h : Ext N w0 w) (k : DA N w w' es) : Ext N w0 w' := ⟨k.tape.trans h.tape, k.os.trans h.os, k.output.trans h.output, Nat.le_trans h.size k.size, fun c hc => (k.keep c hc).trans (h.keep c hc)⟩
noncomputable def r33_0 : Code := match Try.f33.body with | some (.seq r _) => r | _ => .skip
noncomputable def r33_1 : Code := match Try.f33.body with | some (.seq _ (.seq r _)) => r | _ => .skip
noncomputable def ops33_0 : Array Oper := match r33_0 with | .region _ o _ => o | _ => #[]
noncomputable def ops33_1 : Array Oper := match r33_1 with | .region _ o _ => o | _ => #[]
noncomputable def oA0 : Oper := { dst := some 3, op := .box 23 (.tmp 0), type := 0, pos := placed ops33_0 0, after := #[], guard := none }
theorem oA0_at : ops33_0[0]? = some oA0 := by kernel_rfl
noncomputable def oA1 : Oper := { dst := some 4, op := .box 2 (.tmp 1), type := 0, pos := placed ops33_0 1, after := #[], guard := none }
theorem oA1_at : ops33_0[1]? = some oA1 := by kernel_rfl
noncomputable def oA2 : Oper := { dst := some 5, op := .box 58 (.tmp 2), type := 0, pos := placed ops33_0 2, after := #[], guard := none }
theorem oA2_at : ops33_0[2]? = some oA2 := by kernel_rfl
noncomputable def oA3 : Oper := { dst := some 6, op := .assign (.const (.slice none 0 0)), type := 23, pos := placed ops33_0 3, after := #[], guard := none }
theorem oA3_at : ops33_0[3]? = some oA3 := by kernel_rfl
/-- Behind the parameters' boxes. -/
structure HA (N0 k : Nat) (vl vh : Value) (w0 w : World) : Prop where
  ext : Ext N0 w0 w
  b0 : w.heap[N0]? = some (.cells #[vl] 23 (0, 0))
  b1 : w.heap[N0 + 1]? = some (.cells #[.int .i64 (k : Nat)] 2 (0, 0))
  b2 : w.heap[N0 + 2]? = some (.cells #[vh] 58 (0, 0))
theorem a33_r0 {N0 k n cl : Nat} {vl vh : Value} {al : Option Addr} {f : FuncId} {caps : Array Value} {w : World} {Q : Exit → Act → Unit → World → Prop} (hN : w.heap.size = N0) (hl : vl = .slice al n cl) (hh : vh = .func (.func f) #[] caps)
    (hQ : ∀ w2, HA N0 k vl vh w w2 → w2.heap.size = N0 + 3 → Q .normal ⟨(#[vl, .int .i64 (k : Nat), vh, .pointer (some ⟨N0, 0, none⟩), .pointer (some ⟨(N0 + 1), 0, none⟩), .pointer (some ⟨(N0 + 2), 0, none⟩), .slice none 0 0, undef, undef, undef, undef, undef, undef, undef, undef, undef, undef, undef, undef, undef, undef, undef, undef, undef, undef, undef, undef] : Array Value), []⟩ () w2) :
    wpG Try.prog true RA (fun _ _ => DA N0) 33 r33_0 Q ⟨(#[vl, .int .i64 (k : Nat), vh, undef, undef, undef, undef, undef, undef, undef, undef, undef, undef, undef, undef, undef, undef, undef, undef, undef, undef, undef, undef, undef, undef, undef, undef] : Array Value), []⟩ () w := by
  have T := DA.terms N0
  show wpG _ _ _ _ _ (.region 0 ops33_0 false) _ _ _ _
  refine wpG_region T ?_
  show opsG _ _ _ _ _ _ (0 :: [1, 2, 3]) _ _ _ _
  refine opsG_value oA0_at rfl fun w1 h1 => ?_
  obtain ⟨d, rfl⟩ := h1
  refine ⟨.pointer (some ⟨N0, 0, none⟩), (w.at d).alloc (.cells #[vl] 23 (0, 0)), (), ?_, DA.alloc (by show _ ≤ w.heap.size; omega) fun e he => ?_, ?_⟩
  · rw [← hN]; simp [oA0, go_sem, hl]; rfl
  · replace he := mem_seen he
    simp [oA0, go_sem, hl] at he
  show opsG _ _ _ _ _ _ (1 :: [2, 3]) _ ⟨(#[vl, .int .i64 (k : Nat), vh, .pointer (some ⟨N0, 0, none⟩), undef, undef, undef, undef, undef, undef, undef, undef, undef, undef, undef, undef, undef, undef, undef, undef, undef, undef, undef, undef, undef, undef, undef] : Array Value), []⟩ _ _
  have s1 : ((w.at d).alloc (.cells #[vl] 23 (0, 0))).heap.size = N0 + 1 := by rw [size_alloc', ← hN]; rfl
  have c1 : ((w.at d).alloc (.cells #[vl] 23 (0, 0))).heap[N0]? = some (.cells #[vl] 23 (0, 0)) := by rw [← hN]; exact heap_alloc_at (w := w.at d)
  have x1 : Ext N0 w ((w.at d).alloc (.cells #[vl] 23 (0, 0))) := ⟨rfl, rfl, rfl, by omega, fun c hc => heap_alloc_lt (w := w.at d) (by show c < w.heap.size; omega)⟩
  generalize (w.at d).alloc (.cells #[vl] 23 (0, 0)) = w1 at s1 c1 x1 ⊢
  refine opsG_value oA1_at rfl fun w1' h1 => ?_
  obtain ⟨d1, rfl⟩ := h1
  refine ⟨.pointer (some ⟨N0 + 1, 0, none⟩), (w1.at d1).alloc (.cells #[.int .i64 (k : Nat)] 2 (0, 0)), (), ?_, DA.alloc (by show _ ≤ w1.heap.size; omega) fun e he => ?_, ?_⟩
  · rw [← s1]; simp [oA1, go_sem]; rfl
  · replace he := mem_seen he
    simp [oA1, go_sem] at he
  show opsG _ _ _ _ _ _ (2 :: [3]) _ ⟨(#[vl, .int .i64 (k : Nat), vh, .pointer (some ⟨N0, 0, none⟩), .pointer (some ⟨(N0 + 1), 0, none⟩), undef, undef, undef, undef, undef, undef, undef, undef, undef, undef, undef, undef, undef, undef, undef, undef, undef, undef, undef, undef, undef, undef] : Array Value), []⟩ _ _
  have s2 : ((w1.at d1).alloc (.cells #[.int .i64 (k : Nat)] 2 (0, 0))).heap.size = N0 + 2 := by rw [size_alloc']; show w1.heap.size + 1 = _; omega
  have c2 : ((w1.at d1).alloc (.cells #[.int .i64 (k : Nat)] 2 (0, 0))).heap[N0]? = some (.cells #[vl] 23 (0, 0)) ∧ ((w1.at d1).alloc (.cells #[.int .i64 (k : Nat)] 2 (0, 0))).heap[N0 + 1]? = some (.cells #[.int .i64 (k : Nat)] 2 (0, 0)) := ⟨heap_alloc_old (w := w1.at d1) c1, by rw [← s1]; exact heap_alloc_at (w := w1.at d1)⟩
  have x2 : Ext N0 w ((w1.at d1).alloc (.cells #[.int .i64 (k : Nat)] 2 (0, 0))) := ⟨x1.tape, x1.os, x1.output, by omega, fun c hc => (heap_alloc_lt (w := w1.at d1) (by show c < w1.heap.size; omega)).trans (x1.keep c hc)⟩
  generalize (w1.at d1).alloc (.cells #[.int .i64 (k : Nat)] 2 (0, 0)) = w2 at s2 c2 x2 ⊢
  refine opsG_value oA2_at rfl fun w1' h1 => ?_
  obtain ⟨d2, rfl⟩ := h1
  refine ⟨.pointer (some ⟨N0 + 2, 0, none⟩), (w2.at d2).alloc (.cells #[vh] 58 (0, 0)), (), ?_, DA.alloc (by show _ ≤ w2.heap.size; omega) fun e he => ?_, ?_⟩
  · rw [← s2]; simp [oA2, go_sem, hh]; rfl
  · replace he := mem_seen he
    simp [oA2, go_sem, hh] at he
  show opsG _ _ _ _ _ _ (3 :: []) _ ⟨(#[vl, .int .i64 (k : Nat), vh, .pointer (some ⟨N0, 0, none⟩), .pointer (some ⟨(N0 + 1), 0, none⟩), .pointer (some ⟨(N0 + 2), 0, none⟩), undef, undef, undef, undef, undef, undef, undef, undef, undef, undef, undef, undef, undef, undef, undef, undef, undef, undef, undef, undef, undef] : Array Value), []⟩ _ _
  have s3 : ((w2.at d2).alloc (.cells #[vh] 58 (0, 0))).heap.size = N0 + 3 := by rw [size_alloc']; show w2.heap.size + 1 = _; omega
  have c3 : HA N0 k vl vh w ((w2.at d2).alloc (.cells #[vh] 58 (0, 0))) := ⟨⟨x2.tape, x2.os, x2.output, by omega, fun c hc => (heap_alloc_lt (w := w2.at d2) (by show c < w2.heap.size; omega)).trans (x2.keep c hc)⟩,
    heap_alloc_old (w := w2.at d2) c2.1, heap_alloc_old (w := w2.at d2) c2.2, by rw [← s2]; exact heap_alloc_at (w := w2.at d2)⟩
  generalize (w2.at d2).alloc (.cells #[vh] 58 (0, 0)) = w3 at s3 c3 ⊢
  refine opsG_value oA3_at rfl fun w1' h1 => ?_
  obtain ⟨d3, rfl⟩ := h1
  refine ⟨.slice none 0 0, w3.at d3, (), ?_, DA.quiet fun e he => ?_, ?_⟩
  · simp [oA3, go_sem]
  · replace he := mem_seen he
    simp [oA3, go_sem] at he
  show opsG _ _ _ _ _ _ [] _ ⟨(#[vl, .int .i64 (k : Nat), vh, .pointer (some ⟨N0, 0, none⟩), .pointer (some ⟨(N0 + 1), 0, none⟩), .pointer (some ⟨(N0 + 2), 0, none⟩), .slice none 0 0, undef, undef, undef, undef, undef, undef, undef, undef, undef, undef, undef, undef, undef, undef, undef, undef, undef, undef, undef, undef] : Array Value), []⟩ _ _
  exact opsG_nil T (hQ _ ⟨c3.ext.at d3, c3.b0, c3.b1, c3.b2⟩ s3)
end Go.Proofs.Ytpigjhagdpeofaa.Sim
