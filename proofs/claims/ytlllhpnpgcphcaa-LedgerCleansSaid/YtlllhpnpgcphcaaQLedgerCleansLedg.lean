/- A text that the row of LedgerCleans needs. (Pruned by tools/prune.py.) -/
import Derived.Test.YtlllhpnpgcphcaaQLedgerCleansLede
set_option linter.unusedVariables false
set_option linter.unusedSimpArgs false
namespace Go.Np.Try
open Go.RowKit Go.Proofs Go.Proofs.Ytlllhpnpgcphcaa.PX Go.Proofs.YtlllhpnpgcphcaaW.PrintWords
set_option maxHeartbeats 2000000 in
set_option maxRecDepth 100000 in
theorem delete_same {w : World} {A : Option Addr} {c g b : Nat} {l : List Int} (hC : (Kd.int .i64).C w A l.length l) (hA : ∀ ad, A = some ad → ad.block ≠ b) (hgb : g ≠ b) (hg : w.cell? ⟨g, 0, none⟩ = some (.map (some b))) (hM : SetAt w b []) (hs : ∀ n, n < l.length → cleanL [] (l.take n) = l.take n → l.getD n 0 ∉ l.take n) :
    Calls Try.prog 92 #[.slice A l.length c, .func (.func 94) #[] #[.pointer (some ⟨g, 0, none⟩)]] w fun e w' => e = .returned (.slice A l.length c) ∧ cleanL [] l = l ∧ Fr [b] w w' := by
  have HI := Lib.hid (firstmet_calls (c := c) hC hA hgb hg hM)
  have HS := Lib.hid hs
  refine calls_k fun R hR => ?_
  clear hC hA hg hM hs
  go_enter Try.func92, Try.ntmps92
  go_upto_region 2 with (first
    | (go_at_call 111; refine HI.out.mono ?_; rintro e w1 ⟨x, rfl, hx, hF1⟩; have HX := Lib.hid hx; have HF1 := Lib.hid hF1; clear hx hF1 HI))
  rcases HX.out with ⟨rfl, hcl⟩ | ⟨n, rfl, hn, h1, h2, h3⟩
  · have HCL := Lib.hid hcl
    clear hcl HX
    go_wp2
    exact hR.out _ _ ⟨rfl, HCL.out, HF1.out⟩
  · exact absurd h2 (HS.out n hn h1)
end Go.Np.Try
