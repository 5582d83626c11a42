/- A text that the row of ChainRefuses needs. (Pruned by tools/prune.py.) -/
import Derived.Test.YtlllhpnpgcphcaaQChainRefusesChh
import Derived.Test.YtlllhpnpgcphcaaQChainRefusesActO
import Derived.Test.YtlllhpnpgcphcaaQChainRefusesPXx16
set_option linter.unusedVariables false
set_option linter.unusedSimpArgs false
namespace Go.Np.Try
open Go.RowKit Go.Proofs Go.Proofs.Ytlllhpnpgcphcaa.PX Go.Proofs.YtlllhpnpgcphcaaW.PrintWords
theorem chk_l (L : List Int) (hL : L.length ≤ 1000000) : ∀ (m j : Nat), j + m = L.length → ∃ r, neaptideref10_Check.l0 (m + 1) L (L.length : Int) (j : Int) = some r
  | 0, j, hj => by
    simp only [neaptideref10_Check.l0]
    rw [if_neg (by omega)]
    exact ⟨_, rfl⟩
  | m + 1, j, hj => by
    have hlt : j < L.length := by omega
    obtain ⟨r, hr⟩ := chk_l L hL m (j + 1) (by omega)
    rw [neaptideref10_Check.l0]
    rw [if_pos (by omega), if_pos (by omega), if_pos (by omega), wr_step j (by omega), hr]
    split
    · exact ⟨_, rfl⟩
    · split
      · exact ⟨_, rfl⟩
      · exact ⟨_, rfl⟩
theorem chk_ev (L : List Int) : ∃ r, neaptideref10_Check.f (L.length + 1) L = some r ∧ (r = 0 → L.length ≤ 200) := by
  unfold neaptideref10_Check.f
  by_cases h : (L.length : Int) > 200
  · rw [if_pos h]
    exact ⟨101, rfl, fun h => by cases h⟩
  · rw [if_neg h]
    obtain ⟨r, hr⟩ := chk_l L (by omega) L.length 0 (by omega)
    exact ⟨r, hr, fun _ => by omega⟩
theorem ints_F {w : World} {A : Option Addr} {n : Nat} {l : List Int} (h : (Kd.int .i64).C w A n l) : Kd.F (Kd.int .i64) w (fun k => k < w.heap.size) A n l := by
  intro W' hW
  refine ⟨h.1, h.2.1, fun hp => ?_⟩
  obtain ⟨ad, rfl, hj⟩ := h.2.2 hp
  refine ⟨ad, rfl, fun j p hjp => ?_⟩
  obtain ⟨cs, h1, h2, h3⟩ := hj j p hjp
  refine ⟨cs, h1, h2, fun i u hu => ?_⟩
  have h4 := h3 i u hu
  have hlt : (ad.add (j * (Kd.int .i64).sz + i)).block < w.heap.size := by
    rcases Nat.lt_or_ge (ad.add (j * (Kd.int .i64).sz + i)).block w.heap.size with h5 | h5
    · exact h5
    · simp [World.cell?, Array.getElem?_eq_none h5] at h4
  exact (World.cell?_of_block (w := w) (hW _ hlt hlt)).trans h4
section
variable {ops : Array Oper} {rest : List Oper} {o : Oper} {a : Act} {Q : Exit → Act → World → Prop}
theorem wp_copyI {w : World} (hgd : o.guard = none) (s x : Operand)
    (ho : o.op = .call { callee := .builtin .append, args := #[s, x], argTypes := #[39, 39] })
    {l : List Int} {A : Option Addr} {c : Nat} (hs : a.eval s = .slice (some ⟨w.heap.size, 0, none⟩) 0 0) (hx : a.eval x = .slice A l.length c) (HR : (Kd.int .i64).C w A l.length l) (hl : l.length ≤ 1000)
    (h : ∀ A1 c1 w1, l.length ≤ c1 → (Kd.int .i64).C w1 A1 l.length l → Fr [] w w1 → wpList Try.prog ops Q rest (a.put o.dst (.slice A1 l.length c1)) w1) :
    wpList Try.prog ops Q (o :: rest) a (w.alloc (.cells #[] 3)) := by
  have hA : Fr [] w (w.alloc (.cells #[] 3)) := (Fr.refl _ _).alloc _
  have hs1 : (w.alloc (.cells #[] 3)).heap.size = w.heap.size + 1 := by simp
  have HN : Kd.N (Kd.int .i64) 3 (w.alloc (.cells #[] 3)) 0 (fun _ => True) (.slice (some ⟨w.heap.size, 0, none⟩) 0 0) [] :=
    Kd.R_N ⟨fun k hk => trivial, [], ⟨rfl, .inr ⟨w.heap.size, 0, #[], rfl, Nat.zero_le _, heap_alloc_new _ _, Nat.le_refl _, Nat.zero_le _, by simp, by simp⟩⟩, Reps.none _ _⟩
  refine Kd.N_append_rows (Kd.int .i64) (w0 := w.alloc (.cells #[] 3)) 0 hgd s x 39 3 _ 8 ho Try.underlying39 infoI rfl (by decide) (by omega) _ [] l A l.length c (fun _ => True) (fun k => k < w.heap.size) hs hx HN (Kd.F_below (ints_F HR) hA.below)
    (fun k hk => ⟨trivial, fun he => by have h2 : k = w.heap.size := (by simpa [Value.ownBlock] using he); omega⟩) (fun _ _ => trivial) (Below.refl _ _) (Nat.zero_le _) (by simp; omega) ?_
  intro v1 w1 h1 _ h3 h4
  rw [List.nil_append] at h1
  obtain ⟨A1, c1, rfl⟩ := Kd.N_slice h1
  obtain ⟨_, h5, h6⟩ := Kd.N_reads' h1
  exact h A1 c1 w1 h5 h6 (hA.trans (Fr.grown (S := [w.heap.size]) h3 (fun k hk => .inl (by simp [Value.ownBlock] at hk; simp [hk]))) (fun k hk => .inr (by simp at hk; omega)))
end
def minerN (n : Int) : Int := if namedB n = true then n % 65536 / 256 else 0
theorem miner_ev (n : Int) : block_Miner.f n = some (minerN n) := by
  unfold block_Miner.f minerN
  rw [named_ev]
  simp only [Option.bind_some]
  by_cases h : namedB n = true
  · rw [if_pos h, if_pos h]
    have h1 := h
    simp only [namedB, Bool.and_eq_true, decide_eq_true_eq] at h1
    rw [Int.tmod_eq_emod_of_nonneg (by omega), Int.tdiv_eq_ediv_of_nonneg (by omega), wr_in _ (by omega)]
  · rw [if_neg h, if_neg h]
theorem miner_calls {w : World} (n : Int) : Calls Try.prog 53 #[.int .i64 n] w fun e w' => e = .returned (.int .i64 (minerN n)) ∧ Fr [] w w' := by
  refine (block_Miner.calls n _ w (miner_ev n)).mono ?_
  rintro e w' ⟨h1, ⟨m, rfl⟩⟩
  exact ⟨h1, (Fr.refl _ _).drewN m⟩
theorem name_parts {b : Blk} (h : nameB b ≠ 0) : slotN (nameB b) = b.f0 ∧ minerN (nameB b) = b.f1 ∧ namedB (nameB b) = true := by
  obtain ⟨hr, h2, h3, h4, h5⟩ := nameB_pos h
  have h1 := hr
  simp only [rightB, Bool.and_eq_true, decide_eq_true_eq] at h1
  have hn : namedB (nameB b) = true := by
    simp only [namedB, Bool.and_eq_true, decide_eq_true_eq]
    omega
  refine ⟨?_, ?_, hn⟩
  · unfold slotN; rw [if_pos hn]; omega
  · unfold minerN; rw [if_pos hn]; omega
structure Tr.All (t : Tr) (P : Blk → Prop) : Prop where
  known : ∀ e ∈ t.known, P e.blk
  wait : ∀ b ∈ t.wait, P b
theorem Tr.All.grow {t : Tr} {P : Blk → Prop} (h : t.All P) {b : Blk} (hb : P b) : (t.grow b).All P := by
  refine ⟨fun e he => ?_, h.wait⟩
  have he' : e ∈ t.known ∨ e = ⟨nameB b, b, t.path b.f3 ++ [nameB b]⟩ := by simpa [Tr.grow] using he
  rcases he' with he' | rfl
  · exact h.known e he'
  · exact hb
theorem Tr.settle_all {P : Blk → Prop} : ∀ (k : Nat) (t : Tr) (out : List Int), t.All P → (Tr.settle k t out).1.All P
  | 0, t, out, h => h
  | k + 1, t, out, h => by
    cases hf : t.wait.findIdx? t.ready with
    | none => rw [Tr.settle_none hf]; exact h
    | some i =>
      obtain ⟨hi, _⟩ := List.findIdx?_eq_some_iff_getElem.1 hf
      have hb : t.wait[i]? = some t.wait[i] := List.getElem?_eq_getElem hi
      rw [Tr.settle_some hf hb]
      have he : (⟨t.known, t.wait.eraseIdx i⟩ : Tr).All P := ⟨h.known, fun c hc => h.wait c (List.mem_of_mem_eraseIdx hc)⟩
      split
      · exact Tr.settle_all k _ _ (he.grow (h.wait _ (List.getElem_mem hi)))
      · exact Tr.settle_all k _ _ he
theorem Tr.add_all {t : Tr} {P : Blk → Prop} (h : t.All P) {b : Blk} (hb : P b) : (t.add b).1.All P := by
  unfold Tr.add
  split
  · exact h
  · split
    · refine ⟨h.known, fun c hc => ?_⟩
      have hc' := List.mem_of_mem_drop hc
      rcases List.mem_append.1 hc' with h1 | h1
      · exact h.wait c h1
      · simp at h1; subst h1; exact hb
    · split
      · exact h
      · exact Tr.settle_all _ _ _ (h.grow hb)
def Ch.Won (C : Ch) : Prop := C.t.All (fun b => winsB C.dr b.f0 b.f1 = true ∧ b.f0 ≤ C.slot)
theorem Ch.Won.next {C : Ch} (h : C.Won) (s : Int) : (C.next s).Won :=
  ⟨fun e he => ⟨(h.known e he).1, by have := (h.known e he).2; show _ ≤ max C.slot s; omega⟩, fun b hb => ⟨(h.wait b hb).1, by have := (h.wait b hb).2; show _ ≤ max C.slot s; omega⟩⟩
theorem Ch.take_cases {C : Ch} (h : C.Won) (hG : C.t.Good) (b : Blk) : (C.take b = (C, [], 111)) ∨
    ((C.take b).2.2 = 0 ∧ winsB C.dr b.f0 b.f1 = true ∧ b.f0 ≤ C.slot ∧ (C.take b).1.Won ∧ (C.take b).1.dr = C.dr ∧ (C.take b).1.slot = C.slot ∧ ∀ n ∈ (C.take b).2.1, winsB C.dr (slotN n) (minerN n) = true ∧ slotN n ≤ C.slot) := by
  unfold Ch.take
  by_cases hc : rightB b = true ∧ b.f0 ≤ C.slot ∧ winsB C.dr b.f0 b.f1 = true
  · rw [if_pos hc]
    cases hok : (C.t.add b).2.2 with
    | false =>
      rw [Tr.add_no hok]
      exact .inl rfl
    | true =>
      refine .inr ⟨by simp, hc.2.2, hc.2.1, ?_, rfl, rfl, fun n hn => ?_⟩
      · exact Tr.add_all h ⟨hc.2.2, hc.2.1⟩
      · obtain ⟨es, h1, h2⟩ := Tr.add_ext C.t b
        have hall : (C.t.add b).1.All (fun b => winsB C.dr b.f0 b.f1 = true ∧ b.f0 ≤ C.slot) := Tr.add_all h ⟨hc.2.2, hc.2.1⟩
        have hgood := Tr.add_good hG b
        simp only [] at hn
        rw [h2] at hn
        obtain ⟨e, he, rfl⟩ := List.mem_map.1 hn
        have hek : e ∈ (C.t.add b).1.known := by rw [h1]; simp [he]
        obtain ⟨g1, g2, _⟩ := hgood.ok.known e hek
        obtain ⟨p1, p2, _⟩ := name_parts (b := e.blk) (by rw [← g1]; exact g2)
        obtain ⟨w1, w2⟩ := hall.known e hek
        rw [g1, p1, p2]
        exact ⟨w1, w2⟩
  · rw [if_neg hc]
    exact .inl rfl
theorem act_cells {w : World} {A : Option Addr} {l : List Ac} (h : ∀ (j : Nat) (a : Ac), l[j]? = some a → a.Fine w ∧ a.blk.f4.length ≤ 8796093022208 ∧ ∃ ad, A = some ad ∧ ∀ (i : Nat) (u : Value), a.cells[i]? = some u → w.cell? (ad.add (j * 8 + i)) = some u) (j : Nat) (a : Ac) (ha : l[j]? = some a) {W : World} (hF : Fr [] w W) :
    a.Fine W ∧ a.blk.f4.length ≤ 8796093022208 ∧ ∃ ad, A = some ad ∧ W.cell? (ad.add (j * 8)) = some (.int .i64 a.kind) ∧ W.cell? ⟨(ad.add (j * 8)).block, (ad.add (j * 8)).off + 1, none⟩ = some (.int .i64 a.n) ∧ W.cell? ⟨(ad.add (j * 8)).block, (ad.add (j * 8)).off + 2, none⟩ = some (.int .i64 a.blk.f0) ∧ W.cell? ⟨(ad.add (j * 8)).block, (ad.add (j * 8)).off + 3, none⟩ = some (.int .i64 a.blk.f1) ∧
      W.cell? ⟨(ad.add (j * 8)).block, (ad.add (j * 8)).off + 4, none⟩ = some (.int .i64 a.blk.f2) ∧ W.cell? ⟨(ad.add (j * 8)).block, (ad.add (j * 8)).off + 5, none⟩ = some (.int .i64 a.blk.f3) ∧ W.cell? ⟨(ad.add (j * 8)).block, (ad.add (j * 8)).off + 6, none⟩ = some (.slice a.A4 a.blk.f4.length a.c4) ∧ W.cell? ⟨(ad.add (j * 8)).block, (ad.add (j * 8)).off + 7, none⟩ = some (.slice a.At a.txs.length a.ct) := by
  obtain ⟨hf, hl, ad, hA, hc⟩ := h j a ha
  have hcell : ∀ (i : Nat) (u : Value), a.cells[i]? = some u → W.cell? (ad.add (j * 8 + i)) = some u := fun i u hu => cellF hF (hc i u hu)
  refine ⟨⟨hf.l4, Kd.C_below hf.C4 hF.below, hf.lt, Kd.C_below hf.Ct hF.below, hf.rg⟩, hl, ad, hA, hcell 0 _ rfl, ?_, ?_, ?_, ?_, ?_, ?_, ?_⟩
  · have := hcell 1 _ rfl; rwa [add_field _ _ 1 (by omega)] at this
  · have := hcell 2 _ rfl; rwa [add_field _ _ 2 (by omega)] at this
  · have := hcell 3 _ rfl; rwa [add_field _ _ 3 (by omega)] at this
  · have := hcell 4 _ rfl; rwa [add_field _ _ 4 (by omega)] at this
  · have := hcell 5 _ rfl; rwa [add_field _ _ 5 (by omega)] at this
  · have := hcell 6 _ rfl; rwa [add_field _ _ 6 (by omega)] at this
  · have := hcell 7 _ rfl; rwa [add_field _ _ 7 (by omega)] at this
end Go.Np.Try
