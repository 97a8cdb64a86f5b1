/-
  slices.symMergeCmpFunc at int, over a comparison that tells which of two keys is less. Conditions: fewer than 1000000 integers, each below their count.
-/
import Derived.Test.YtcpjbnfmkhaadaaSortM1Pd
import Derived.Test.YtcpjbnfmkhaadaaSortM2Pd
namespace Go.Proofs.Ytcpjbnfmkhaadaa
open Go.RowKit
set_option linter.unusedVariables false

theorem symM_pd (n g c : Nat) (b1 b2 : Value) (key : Int → Int) (w0 : World) (hn : n < 1000000) (hc : Cmp_pd w0 g n key b1 b2) : ∀ (d a m b : Nat) (f : Nat → Int), b - a ≤ d → Rng n f 0 n → Srt key f a m → Srt key f m b → Lower f a m b → a < m → m < b → b ≤ n → MergeC_pd w0 g n c b1 b2 key a m b f := by
  intro d
  induction d with
  | zero => intro a m b f h1 _ _ _ _ h2 h3; omega
  | succ d ih =>
    intro a m b f hd hrg hs1 hs2 hl ham hmb hbn
    by_cases k1 : m = a + 1
    · intro w hk hr
      exact symA_pd n g c a b b1 b2 key f w0 w hn hc hk hr hrg (k1 ▸ hs2) (k1 ▸ hl) (by omega) hbn m k1
    by_cases k2 : b = m + 1
    · subst k2
      intro w hk hr
      exact symB_pd n g c a m b1 b2 key f w0 w hn hc hk hr hrg hs1 hl (by omega) hbn _ rfl
    by_cases hm : (a + b) / 2 < m
    · exact symM1_pd n g c b1 b2 key w0 hn hc d a m b _ f ih (by omega) hrg hs1 hs2 hl ham hmb hbn k1 k2 rfl hm
    · exact symM2_pd n g c b1 b2 key w0 hn hc d a m b _ f ih (by omega) hrg hs1 hs2 hl ham hmb hbn k1 k2 rfl hm
end Go.Proofs.Ytcpjbnfmkhaadaa
