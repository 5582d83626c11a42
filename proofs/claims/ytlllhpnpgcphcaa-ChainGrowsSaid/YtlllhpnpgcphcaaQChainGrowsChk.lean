/- A text that the row of ChainGrows needs. (Pruned by tools/prune.py.) -/
import Derived.Test.YtlllhpnpgcphcaaQChainGrowsChh
import Derived.Test.YtlllhpnpgcphcaaQChainGrowsDocB
import Derived.Test.YtlllhpnpgcphcaaQChainGrowsPXx16
set_option linter.unusedVariables false
set_option linter.unusedSimpArgs false
namespace Go.Np.Try
open Go.RowKit Go.Proofs Go.Proofs.Ytlllhpnpgcphcaa.PX Go.Proofs.YtlllhpnpgcphcaaW.PrintWords
theorem ints_F {w : World} {A : Option Addr} {n : Nat} {l : List Int} (h : (Kd.int .i64).C w A n l) : Kd.F (Kd.int .i64) w (fun k => k < w.heap.size) A n l := by
  intro W' hW
  refine ⟨h.1, h.2.1, fun hp => ?_⟩
  obtain ⟨ad, rfl, hj⟩ := h.2.2 hp
  refine ⟨ad, rfl, fun j p hjp => ?_⟩
  obtain ⟨cs, h1, h2, h3⟩ := hj j p hjp
  refine ⟨cs, h1, h2, fun i u hu => ?_⟩
  have h4 := h3 i u hu
  have hlt : (ad.add (j * (Kd.int .i64).sz + i)).block < w.heap.size := by
    rcases Nat.lt_or_ge (ad.add (j * (Kd.int .i64).sz + i)).block w.heap.size with h5 | h5
    · exact h5
    · simp [World.cell?, Array.getElem?_eq_none h5] at h4
  exact (World.cell?_of_block (w := w) (hW _ hlt hlt)).trans h4
section
variable {ops : Array Oper} {rest : List Oper} {o : Oper} {a : Act} {Q : Exit → Act → World → Prop}
theorem wp_copyI {w : World} (hgd : o.guard = none) (s x : Operand)
    (ho : o.op = .call { callee := .builtin .append, args := #[s, x], argTypes := #[39, 39] })
    {l : List Int} {A : Option Addr} {c : Nat} (hs : a.eval s = .slice (some ⟨w.heap.size, 0, none⟩) 0 0) (hx : a.eval x = .slice A l.length c) (HR : (Kd.int .i64).C w A l.length l) (hl : l.length ≤ 1000)
    (h : ∀ A1 c1 w1, l.length ≤ c1 → (Kd.int .i64).C w1 A1 l.length l → Fr [] w w1 → wpList Try.prog ops Q rest (a.put o.dst (.slice A1 l.length c1)) w1) :
    wpList Try.prog ops Q (o :: rest) a (w.alloc (.cells #[] 3)) := by
  have hA : Fr [] w (w.alloc (.cells #[] 3)) := (Fr.refl _ _).alloc _
  have hs1 : (w.alloc (.cells #[] 3)).heap.size = w.heap.size + 1 := by simp
  have HN : Kd.N (Kd.int .i64) 3 (w.alloc (.cells #[] 3)) 0 (fun _ => True) (.slice (some ⟨w.heap.size, 0, none⟩) 0 0) [] :=
    Kd.R_N ⟨fun k hk => trivial, [], ⟨rfl, .inr ⟨w.heap.size, 0, #[], rfl, Nat.zero_le _, heap_alloc_new _ _, Nat.le_refl _, Nat.zero_le _, by simp, by simp⟩⟩, Reps.none _ _⟩
  refine Kd.N_append_rows (Kd.int .i64) (w0 := w.alloc (.cells #[] 3)) 0 hgd s x 39 3 _ 8 ho Try.underlying39 infoI rfl (by decide) (by omega) _ [] l A l.length c (fun _ => True) (fun k => k < w.heap.size) hs hx HN (Kd.F_below (ints_F HR) hA.below)
    (fun k hk => ⟨trivial, fun he => by have h2 : k = w.heap.size := (by simpa [Value.ownBlock] using he); omega⟩) (fun _ _ => trivial) (Below.refl _ _) (Nat.zero_le _) (by simp; omega) ?_
  intro v1 w1 h1 _ h3 h4
  rw [List.nil_append] at h1
  obtain ⟨A1, c1, rfl⟩ := Kd.N_slice h1
  obtain ⟨_, h5, h6⟩ := Kd.N_reads' h1
  exact h A1 c1 w1 h5 h6 (hA.trans (Fr.grown (S := [w.heap.size]) h3 (fun k hk => .inl (by simp [Value.ownBlock] at hk; simp [hk]))) (fun k hk => .inr (by simp at hk; omega)))
end
def minerN (n : Int) : Int := if namedB n = true then n % 65536 / 256 else 0
theorem name_parts {b : Blk} (h : nameB b ≠ 0) : slotN (nameB b) = b.f0 ∧ minerN (nameB b) = b.f1 ∧ namedB (nameB b) = true := by
  obtain ⟨hr, h2, h3, h4, h5⟩ := nameB_pos h
  have h1 := hr
  simp only [rightB, Bool.and_eq_true, decide_eq_true_eq] at h1
  have hn : namedB (nameB b) = true := by
    simp only [namedB, Bool.and_eq_true, decide_eq_true_eq]
    omega
  refine ⟨?_, ?_, hn⟩
  · unfold slotN; rw [if_pos hn]; omega
  · unfold minerN; rw [if_pos hn]; omega
end Go.Np.Try
