/- A text that the row of LedgerCleans needs. (Pruned by tools/prune.py.) -/
import Derived.Test.YtlllhpnpgcphcaaQLedgerCleansChh
import Derived.Test.YtlllhpnpgcphcaaQLedgerCleansDocA
import Derived.Test.YtlllhpnpgcphcaaProg
import Derived.KernelRfl
import Derived.OpenShut
import Derived.WideKeyArr2
import Derived.Test.YtlllhpnpgcphcaaQLedgerCleansPXx0
import Derived.Test.YtlllhpnpgcphcaaQLedgerCleansPXx2
import Derived.Test.YtlllhpnpgcphcaaQLedgerCleansPXx3
import Derived.Test.YtlllhpnpgcphcaaQLedgerCleansPXx15
set_option linter.unusedVariables false
set_option linter.unusedSimpArgs false
namespace Go.Np.Try
open Go.RowKit Go.Proofs Go.Proofs.Ytlllhpnpgcphcaa.PX Go.Proofs.YtlllhpnpgcphcaaW.PrintWords
theorem ints_F {w : World} {A : Option Addr} {n : Nat} {l : List Int} (h : (Kd.int .i64).C w A n l) : Kd.F (Kd.int .i64) w (fun k => k < w.heap.size) A n l := by
  intro W' hW
  refine ⟨h.1, h.2.1, fun hp => ?_⟩
  obtain ⟨ad, rfl, hj⟩ := h.2.2 hp
  refine ⟨ad, rfl, fun j p hjp => ?_⟩
  obtain ⟨cs, h1, h2, h3⟩ := hj j p hjp
  refine ⟨cs, h1, h2, fun i u hu => ?_⟩
  have h4 := h3 i u hu
  have hlt : (ad.add (j * (Kd.int .i64).sz + i)).block < w.heap.size := by
    rcases Nat.lt_or_ge (ad.add (j * (Kd.int .i64).sz + i)).block w.heap.size with h5 | h5
    · exact h5
    · simp [World.cell?, Array.getElem?_eq_none h5] at h4
  exact (World.cell?_of_block (w := w) (hW _ hlt hlt)).trans h4
end Go.Np.Try
