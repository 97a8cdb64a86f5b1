/-
  Sorting two ascending lists and striking what is twice gives what merging gives: plain. No program in sight. Condition: the lists ascend.
-/
import Derived.Test.YtdaijapdfleohaaJoinP
import Derived.Test.YtdaijapdfleohaaJoinC
import Derived.Test.YtdaijapdfleohaaJoinR
namespace Go.Proofs.Ytdaijapdfleohaa
open Go.RowKit
set_option linter.unusedVariables false

theorem cmpct_inv (d : Array Int) (hs : ∀ i j, i ≤ j → j < d.size → d[i]! ≤ d[j]!) : ∀ m, m ≤ d.size → (∀ x, x ∈ Lib.compactUpTo d m ↔ ∃ j, j < m ∧ d[j]! = x) ∧ (Lib.compactUpTo d m).Pairwise (· < ·) := by
  intro m
  induction m with
  | zero =>
    intro _
    have e : Lib.compactUpTo d 0 = [] := rfl
    rw [e]
    exact ⟨fun x => ⟨fun h => (by cases h), fun ⟨j, hj, _⟩ => by omega⟩, List.Pairwise.nil⟩
  | succ m ih =>
    intro hm
    obtain ⟨h1, h2⟩ := ih (by omega)
    rw [Lib.compactUpTo_succ]
    by_cases hk : m = 0 ∨ d[m]! ≠ d[m - 1]!
    · have e : Lib.keeps d m = true := by simp [Lib.keeps, hk]
      rw [if_pos e]
      refine ⟨fun x => ?_, List.pairwise_append.2 ⟨h2, List.pairwise_singleton _ _, fun a ha b hb => ?_⟩⟩
      · rw [List.mem_append, h1 x, List.mem_singleton]
        constructor
        · rintro (⟨j, hj, rfl⟩ | rfl)
          · exact ⟨j, by omega, rfl⟩
          · exact ⟨m, by omega, rfl⟩
        · rintro ⟨j, hj, rfl⟩
          by_cases e : j = m
          · subst e; exact .inr rfl
          · exact .inl ⟨j, by omega, rfl⟩
      · obtain ⟨j, hj, rfl⟩ := (h1 a).1 ha
        rw [List.mem_singleton] at hb
        subst hb
        rcases hk with hk | hk
        · omega
        · have a1 := hs j (m - 1) (by omega) (by omega)
          have a2 := hs (m - 1) m (by omega) (by omega)
          omega
    · have hm0 : m ≠ 0 := fun e => hk (.inl e)
      have he : d[m]! = d[m - 1]! := by
        rcases Classical.em (d[m]! = d[m - 1]!) with e | e
        · exact e
        · exact absurd (.inr e) hk
      have e : Lib.keeps d m = false := by simp [Lib.keeps, hm0, he]
      rw [e]
      simp only [Bool.false_eq_true, if_false, List.append_nil]
      refine ⟨fun x => ?_, h2⟩
      rw [h1 x]
      constructor
      · rintro ⟨j, hj, rfl⟩; exact ⟨j, by omega, rfl⟩
      · rintro ⟨j, hj, rfl⟩
        by_cases e : j = m
        · subst e; exact ⟨j - 1, by omega, he.symm⟩
        · exact ⟨j, by omega, rfl⟩
theorem tab_mem (f : Nat → Int) (n : Nat) (x : Int) : x ∈ tab f n ↔ ∃ p, p < n ∧ f p = x := by
  induction n with
  | zero => exact ⟨fun h => (by cases h), fun ⟨p, hp, _⟩ => by omega⟩
  | succ n ih =>
    rw [tab, List.mem_append, ih, List.mem_singleton]
    constructor
    · rintro (⟨p, hp, rfl⟩ | rfl)
      · exact ⟨p, by omega, rfl⟩
      · exact ⟨n, by omega, rfl⟩
    · rintro ⟨p, hp, rfl⟩
      by_cases e : p = n
      · subst e; exact .inr rfl
      · exact .inl ⟨p, by omega, rfl⟩
theorem cmpct_srt (zs : List Int) : (∀ x, x ∈ cmpct (srt zs) ↔ x ∈ zs) ∧ (cmpct (srt zs)).Pairwise (· < ·) := by
  have hp : (srt zs).Pairwise (fun a b => decide (a ≤ b) = true) := List.pairwise_mergeSort (fun a b c h1 h2 => by simp at h1 h2 ⊢; omega) (fun a b => by simp; omega) zs
  have hs : ∀ i j, i ≤ j → j < (srt zs).toArray.size → (srt zs).toArray[i]! ≤ (srt zs).toArray[j]! := fun i j hij hj => by
    have hj' : j < (srt zs).length := by simpa using hj
    by_cases e : i = j
    · subst e; exact Int.le_refl _
    · have := List.pairwise_iff_getElem.1 hp i j (by omega) hj' (by omega)
      simp only [decide_eq_true_eq] at this
      have e1 : (srt zs).toArray[i]! = (srt zs)[i] := by simp [getElem!_pos, show i < (srt zs).length by omega]
      have e2 : (srt zs).toArray[j]! = (srt zs)[j] := by simp [getElem!_pos, hj']
      rw [e1, e2]
      exact this
  obtain ⟨h1, h2⟩ := cmpct_inv (srt zs).toArray hs _ (Nat.le_refl _)
  refine ⟨fun x => ?_, h2⟩
  have hm : x ∈ srt zs ↔ x ∈ zs := List.mem_mergeSort
  rw [← hm]
  refine (h1 x).trans ?_
  constructor
  · rintro ⟨j, hj, rfl⟩
    have hj' : j < (srt zs).length := by simpa using hj
    have e2 : (srt zs).toArray[j]! = (srt zs)[j] := by simp [getElem!_pos, hj']
    rw [e2]
    exact List.getElem_mem hj'
  · intro h
    obtain ⟨j, hj, rfl⟩ := List.getElem_of_mem h
    exact ⟨j, by simpa using hj, by simp [getElem!_pos, hj]⟩
theorem join_eq {A B : Nat → Int} {n1 n2 : Nat} (hA : ∀ i, i + 1 < n1 → A i < A (i + 1)) (hB : ∀ i, i + 1 < n2 → B i < B (i + 1)) : cmpct (srt (tab A n1 ++ tab B n2)) = jM A n1 B n2 := by
  obtain ⟨h1, h2⟩ := cmpct_srt (tab A n1 ++ tab B n2)
  refine asc_uniq h2 (mrg_asc hA hB _ _ _ (Nat.zero_le _) (Nat.zero_le _) (by omega)) fun x => ?_
  rw [h1 x, List.mem_append, tab_mem, tab_mem]
  refine Iff.trans ?_ (mrg_mem (n1 + n2) 0 0 (Nat.zero_le _) (Nat.zero_le _) (by omega) x).symm
  constructor
  · rintro (⟨p, hp, e⟩ | ⟨q, hq, e⟩)
    · exact .inl ⟨p, Nat.zero_le _, hp, e⟩
    · exact .inr ⟨q, Nat.zero_le _, hq, e⟩
  · rintro (⟨p, _, hp, e⟩ | ⟨q, _, hq, e⟩)
    · exact .inl ⟨p, hp, e⟩
    · exact .inr ⟨q, hq, e⟩
section
variable (fb fr : Nat → Int) (nb nr : Nat) (hb hr : Nat → Int) (mb mr : Nat)
/-- The joined scale: its rates, its breaks, and whether it is one. -/
def jR (x : Int) : Int := rateF fb fr nb x + rateF hb hr mb x
def jB : List Int := jM fb nb hb mb
def jOk : Bool := scaleOk fb nb fr nr && scaleOk hb mb hr mr && scaleOk (fun i => (jB fb nb hb mb).getD i 0) (jB fb nb hb mb).length (fun i => ((jB fb nb hb mb).map (jR fb fr nb hb hr mb)).getD i 0) (jB fb nb hb mb).length
def jLb : List Int := if jOk fb fr nb nr hb hr mb mr then jB fb nb hb mb else []
def jLr : List Int := if jOk fb fr nb nr hb hr mb mr then (jB fb nb hb mb).map (jR fb fr nb hb hr mb) else []
end
section
variable {fb fr : Nat → Int} {nb nr : Nat} {hb hr : Nat → Int} {mb mr : Nat}
theorem j_no (h : jOk fb fr nb nr hb hr mb mr = false) : jLb fb fr nb nr hb hr mb mr = [] ∧ jLr fb fr nb nr hb hr mb mr = [] := by simp [jLb, jLr, h]
theorem j_yes (h : jOk fb fr nb nr hb hr mb mr = true) : jLb fb fr nb nr hb hr mb mr = jB fb nb hb mb ∧ jLr fb fr nb nr hb hr mb mr = (jB fb nb hb mb).map (jR fb fr nb hb hr mb) := by simp [jLb, jLr, h]
theorem jB_len (h1 : nb ≤ 8) (h2 : mb ≤ 8) : (jB fb nb hb mb).length ≤ 16 := by
  have := mrg_length (A := fb) (B := hb) (n1 := nb) (n2 := mb) (nb + mb) 0 0
  unfold jB jM
  omega
theorem jB_pos (h1 : 1 ≤ nb) : 1 ≤ (jB fb nb hb mb).length := by
  unfold jB jM
  obtain ⟨f, hf⟩ : ∃ f, nb + mb = f + 1 := ⟨nb + mb - 1, by omega⟩
  rw [hf, mrg_go (by omega), List.length_cons]
  omega
theorem jR_bd (h1 : ScaleIs fb nb fr nr) (h2 : ScaleIs hb mb hr mr) (x : Int) : 0 ≤ jR fb fr nb hb hr mb x ∧ jR fb fr nb hb hr mb x ≤ 20000 := by
  have a := rtS_bd (fb := fb) (c := x) h1.r nb (Nat.le_refl _)
  have b := rtS_bd (fb := hb) (c := x) h2.r mb (Nat.le_refl _)
  show 0 ≤ rtS fb fr x nb + rtS hb hr x mb ∧ rtS fb fr x nb + rtS hb hr x mb ≤ 20000
  omega
theorem jB_nn (h1 : ScaleIs fb nb fr nr) (h2 : ScaleIs hb mb hr mr) : ∀ x, x ∈ jB fb nb hb mb → 0 ≤ x ∧ x ≤ 1000000000000 := fun x hx => by
  rcases (mrg_mem (nb + mb) 0 0 (Nat.zero_le _) (Nat.zero_le _) (by omega) x).1 hx with ⟨p, _, hp, rfl⟩ | ⟨q, _, hq, rfl⟩
  · exact h1.b p hp
  · exact h2.b q hq
end
end Go.Proofs.Ytdaijapdfleohaa
