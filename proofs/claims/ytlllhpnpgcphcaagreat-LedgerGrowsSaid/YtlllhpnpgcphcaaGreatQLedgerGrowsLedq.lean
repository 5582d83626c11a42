/- A text that the row of LedgerGrows needs. (Pruned by tools/prune.py.) -/
import Derived.Test.YtlllhpnpgcphcaaGreatQLedgerGrowsChe
import Derived.Test.YtlllhpnpgcphcaaGreatQLedgerGrowsDocB
import Derived.Test.YtlllhpnpgcphcaaGreatQLedgerGrowsPXx13
import Derived.Test.YtlllhpnpgcphcaaGreatQLedgerGrowsPXx0
import Derived.Test.YtlllhpnpgcphcaaGreatQLedgerGrowsPXx12
import Derived.Test.YtlllhpnpgcphcaaGreatQLedgerGrowsWZeros
section
set_option linter.unusedVariables false
set_option linter.unusedSimpArgs false
namespace Go.Np.Tryz
open Go.RowKit Go.Proofs Go.Proofs.YtlllhpnpgcphcaaGreat.PX Go.Proofs.YtlllhpnpgcphcaaGreatW.PrintWords
def pickT (old : List Int) (acc : List S67) (t : S67) : List S67 := if acc.length < 3 ∧ t.f0 ∉ old then acc ++ [t] else acc
def Ch.blk (C : Ch) (me : Int) (txs : List S67) : Blk := ⟨C.slot, me, 0, C.t.tip, txs.foldl (pickT (C.txs C.t.tip)) []⟩
theorem five_cells {w : World} {b : Nat} {x0 x1 x2 x3 x4 : Value} {t : TypeId} (h : w.heap[b]? = some (.cells #[x0, x1, x2, x3, x4] t (0, 0))) :
    w.cell? ⟨b, 0, none⟩ = some x0 ∧ w.cell? ⟨b, 1, none⟩ = some x1 ∧ w.cell? ⟨b, 2, none⟩ = some x2 ∧ w.cell? ⟨b, 3, none⟩ = some x3 ∧ w.cell? ⟨b, 4, none⟩ = some x4 ∧ w.frozen? ⟨b, 0, none⟩ = false ∧ w.frozen? ⟨b, 1, none⟩ = false ∧ w.frozen? ⟨b, 2, none⟩ = false ∧ w.frozen? ⟨b, 3, none⟩ = false ∧ w.frozen? ⟨b, 4, none⟩ = false := by
  have e0 := cell_of h 0
  have e1 := cell_of h 1
  have e2 := cell_of h 2
  have e3 := cell_of h 3
  have e4 := cell_of h 4
  simp at e0 e1 e2 e3 e4
  exact ⟨e0, e1, e2, e3, e4, froz_of h 0, froz_of h 1, froz_of h 2, froz_of h 3, froz_of h 4⟩
end Go.Np.Tryz
end
section
set_option linter.unusedVariables false
set_option linter.unusedSimpArgs false
namespace Go.Np.Tryz
open Go.RowKit Go.Proofs Go.Proofs.YtlllhpnpgcphcaaGreat.PX Go.Proofs.YtlllhpnpgcphcaaGreatW.PrintWords
theorem Ch.take_good {C : Ch} (h : C.t.Good) (b : Blk) : (C.take b).1.t.Good := by
  unfold Ch.take
  split
  · exact Tr.add_good h b
  · exact h
theorem ch_takeC {X : Nat → Prop} {w : World} {c : Nat} {C C' : Ch} {L : List Int} {E : Int} (h : ChAt X w c C) (hG : C.t.Good) (hXw : ∀ k, X k → k < w.heap.size) (b : Blk) {A : Option Addr} {cb : Nat} (hC : k67.C w A b.f4.length b.f4) (hc : b.f4.length ≤ cb) (ht : C.take b = (C', L, E)) :
    Calls Tryz.prog 14 #[.pointer (some ⟨c, 0, none⟩), .agg #[.int .i64 b.f0, .int .i64 b.f1, .int .i64 b.f2, .int .i64 b.f3, .slice A b.f4.length cb]] w fun e w' =>
      ∃ D d, e = .returned (.tuple #[.slice D L.length d, .int .i64 E]) ∧ OwnI w.heap.size w' (.slice D L.length d) L ∧ ChAt X w' c C' ∧ FrX X w w' := by
  refine (ch_take h hG hXw ⟨b, A, cb⟩ hC hc).mono ?_
  rintro e w' h
  unfold ChTake at h
  rw [ht] at h
  obtain ⟨v, rfl, hO, hT, hF⟩ := h
  obtain ⟨A, c, rfl⟩ := hO.formN rfl
  exact ⟨A, c, rfl, hO, hT, hF⟩
theorem txs_made (w : World) (l : List S67) (hl : l.length ≤ 1000) : k67.C (w.alloc (.cells (flatT l).toArray 67)) (some ⟨w.heap.size, 0, none⟩) l.length l := by
  have h : (w.alloc (.cells (flatT l).toArray 67)).ownsRow 0 67 2 (.slice (some ⟨w.heap.size, 0, none⟩) l.length l.length) l.length (flatT l) := by
    refine ⟨flatT_len l, .inr ⟨w.heap.size, l.length, (flatT l).toArray, rfl, Nat.zero_le _, heap_alloc_new w _, Nat.le_refl _, by unfold maxLen; omega, by simp [flatT_len], ?_⟩⟩
    rw [← flatT_len l]; simp
  obtain ⟨A, c, e, _, h2⟩ := flatT_C h
  injection e with e1 _ _
  rw [e1]; exact h2
end Go.Np.Tryz
end
section
set_option linter.unusedVariables false
set_option linter.unusedSimpArgs false
namespace Go.Np.Tryz
open Go.RowKit Go.Proofs Go.Proofs.YtlllhpnpgcphcaaGreat.PX Go.Proofs.YtlllhpnpgcphcaaGreatW.PrintWords
theorem ints_F {w : World} {A : Option Addr} {n : Nat} {l : List Int} (h : (Kd.int .i64).C w A n l) : Kd.F (Kd.int .i64) w (fun k => k < w.heap.size) A n l := by
  intro W' hW
  refine ⟨h.1, h.2.1, fun hp => ?_⟩
  obtain ⟨ad, rfl, hj⟩ := h.2.2 hp
  refine ⟨ad, rfl, fun j p hjp => ?_⟩
  obtain ⟨cs, h1, h2, h3⟩ := hj j p hjp
  refine ⟨cs, h1, h2, fun i u hu => ?_⟩
  have h4 := h3 i u hu
  have hlt : (ad.add (j * (Kd.int .i64).sz + i)).block < w.heap.size := by
    rcases Nat.lt_or_ge (ad.add (j * (Kd.int .i64).sz + i)).block w.heap.size with h5 | h5
    · exact h5
    · simp [World.cell?, Array.getElem?_eq_none h5] at h4
  exact (World.cell?_of_block (w := w) (hW _ hlt hlt)).trans h4
section
variable {ops : Array Oper} {rest : List Oper} {o : Oper} {a : Act} {Q : Exit → Act → World → Prop}
theorem wp_copyI {w : World} (hgd : o.guard = none) (s x : Operand)
    (ho : o.op = .call { callee := .builtin .append, args := #[s, x], argTypes := #[22, 22] })
    {l : List Int} {A : Option Addr} {c : Nat} (hs : a.eval s = .slice (some ⟨w.heap.size, 0, none⟩) 0 0) (hx : a.eval x = .slice A l.length c) (HR : (Kd.int .i64).C w A l.length l) (hl : l.length ≤ 1000)
    (h : ∀ A1 c1 w1, l.length ≤ c1 → (Kd.int .i64).C w1 A1 l.length l → Fr [] w w1 → wpList Tryz.prog ops Q rest (a.put o.dst (.slice A1 l.length c1)) w1) :
    wpList Tryz.prog ops Q (o :: rest) a (w.alloc (.cells #[] 3)) := by
  have hA : Fr [] w (w.alloc (.cells #[] 3)) := (Fr.refl _ _).alloc _
  have hs1 : (w.alloc (.cells #[] 3)).heap.size = w.heap.size + 1 := by simp
  have HN : Kd.N (Kd.int .i64) 3 (w.alloc (.cells #[] 3)) 0 (fun _ => True) (.slice (some ⟨w.heap.size, 0, none⟩) 0 0) [] :=
    Kd.R_N ⟨fun k hk => trivial, [], ⟨rfl, .inr ⟨w.heap.size, 0, #[], rfl, Nat.zero_le _, heap_alloc_new _ _, Nat.le_refl _, Nat.zero_le _, by simp, by simp⟩⟩, Reps.none _ _⟩
  refine Kd.N_append_rows (Kd.int .i64) (w0 := w.alloc (.cells #[] 3)) 0 hgd s x 22 3 _ 8 ho Tryz.underlying22 infoI rfl (by decide) (by omega) _ [] l A l.length c (fun _ => True) (fun k => k < w.heap.size) hs hx HN (Kd.F_below (ints_F HR) hA.below)
    (fun k hk => ⟨trivial, fun he => by have h2 : k = w.heap.size := (by simpa [Value.ownBlock] using he); omega⟩) (fun _ _ => trivial) (Below.refl _ _) (Nat.zero_le _) (by simp; omega) ?_
  intro v1 w1 h1 _ h3 h4
  rw [List.nil_append] at h1
  obtain ⟨A1, c1, rfl⟩ := Kd.N_slice h1
  obtain ⟨_, h5, h6⟩ := Kd.N_reads' h1
  exact h A1 c1 w1 h5 h6 (hA.trans (Fr.grown (S := [w.heap.size]) h3 (fun k hk => .inl (by simp [Value.ownBlock] at hk; simp [hk]))) (fun k hk => .inr (by simp at hk; omega)))
end
end Go.Np.Tryz
end
section
set_option linter.unusedVariables false
set_option linter.unusedSimpArgs false
namespace Go.Np.Tryz
open Go.RowKit Go.Proofs Go.Proofs.YtlllhpnpgcphcaaGreat.PX Go.Proofs.YtlllhpnpgcphcaaGreatW.PrintWords
def okD (C : Ch) (d : Int) : Bool := decide (d = 0) || C.t.has d
def settledN (C : Ch) (l : List Int) : Nat := (l.takeWhile (okD C)).length
theorem takeWhile_len {p : Int → Bool} {l : List Int} {k : Nat} (h : ∀ i, i < k → p (l.getD i 0) = true) (hk : k ≤ l.length) (he : k = l.length ∨ p (l.getD k 0) = false) : (l.takeWhile p).length = k := by
  induction l generalizing k with
  | nil => simp at hk; simp [hk]
  | cons x l ih =>
    cases k with
    | zero =>
      rcases he with he | he
      · simp at he
      · simp at he
        simp [List.takeWhile_cons, he]
    | succ k =>
      have h0 : p x = true := by simpa using h 0 (by omega)
      rw [List.takeWhile_cons, if_pos h0, List.length_cons, ih (k := k) (fun i hi => by simpa using h (i + 1) (by omega)) (by simpa using hk) (by simpa using he)]
set_option maxHeartbeats 2000000 in
set_option maxRecDepth 100000 in
theorem settled_calls {X : Nat → Prop} {w : World} {c : Nat} {C : Ch} {A : Option Addr} {cp : Nat} {l : List Int} (h : ChAt X w c C) (hC : (Kd.int .i64).C w A l.length l) :
    Calls Tryz.prog 28 #[.pointer (some ⟨c, 0, none⟩), .slice A l.length cp] w fun e w' => e = .returned (.int .i64 (settledN C l)) ∧ Fr [] w w' := by
  obtain ⟨p, v, D, h⟩ := h
  have H := Lib.hid h
  have HL := Lib.hid (fun k hk => int_at hC k hk)
  have hmx : l.length ≤ 9223372036854775807 := hC.2.1
  have HTR : Hid (∀ W, Fr [] w W → Calls Tryz.prog 20 #[.pointer (some ⟨c, 0, none⟩)] W fun e w' => e = .returned (.pointer (some ⟨p, 0, none⟩)) ∧ Fr [] W w') := fun W hW => ch_tree (H.out.fr hW)
  refine calls_k fun R hR => ?_
  obtain ⟨N, hN⟩ : ∃ N, l.length = N := ⟨_, rfl⟩
  rw [hN] at hmx
  rw [hN]
  have HN := Lib.hid hN
  clear h hC hN
  go_enter Tryz.func28, Tryz.ntmps28
  go_upto_region 2 with (fail)
  go_loopg [9] N (fun gn i wr => ∃ (m k : Nat), m = gn ∧ i = .int .i64 k ∧ m + k = N ∧ Hid (∀ i, i < k → okD C (l.getD i 0) = true) ∧ Hid (Fr [] w wr))
  case atStart => exact ⟨_, 0, rfl, rfl, rfl, fun i hi => absurd hi (Nat.not_lt_zero _), Fr.refl _ _⟩
  case round =>
    obtain ⟨m, k, rfl, rfl, hk, HP, HF⟩ := hrel
    by_cases hlt : k < N
    · obtain ⟨m', rfl⟩ : ∃ m', m = m' + 1 := ⟨m - 1, by omega⟩
      obtain ⟨ad, rfl, hcell⟩ := HL.out k (by rw [HN.out]; exact hlt)
      have hcell := (HF.out.cell (lt_cell hcell) (by simp)).trans hcell
      obtain ⟨d, hd⟩ : ∃ d, l.getD k 0 = d := ⟨_, rfl⟩
      rw [hd] at hcell
      have hok : okD C d = (decide (d = 0) || C.t.has d) := rfl
      by_cases h0 : d = 0
      · have hne : (d == 0) = true := by simpa using h0
        have HP' : Hid (∀ i, i < k + 1 → okD C (l.getD i 0) = true) := by
          show ∀ i, i < k + 1 → okD C (l.getD i 0) = true
          intro i hi
          by_cases e : i = k
          · rw [e, hd, hok, h0]; rfl
          · exact HP.out i (by omega)
        subst h0
        clear hok hd
        go_wp2
        go_roundg m'
        case rel => exact ⟨m', k + 1, rfl, by go_num, by omega, HP', HF⟩
        case measure => omega
      · have hne : (d == 0) = false := by simpa using h0
        obtain ⟨b, hb⟩ : ∃ b, C.t.has d = b := ⟨_, rfl⟩
        rw [hb] at hok
        have HHA : Hid (∀ W, Fr [] w W → Calls Tryz.prog 61 #[.pointer (some ⟨p, 0, none⟩), .int .i64 d] W fun e w' => e = .returned (.bool b) ∧ Fr [] W w') := fun W hW => by
          have h := has_calls (H.out.fr hW).tr d
          rw [hb] at h; exact h
        cases b with
        | true =>
          have HP' : Hid (∀ i, i < k + 1 → okD C (l.getD i 0) = true) := by
            show ∀ i, i < k + 1 → okD C (l.getD i 0) = true
            intro i hi
            by_cases e : i = k
            · rw [e, hd, hok]; simp
            · exact HP.out i (by omega)
          clear hok hd hb
          go_wp2_with (first
            | (go_at_call 20; refine (HTR.out _ HF.out).mono ?_; rintro e w1 ⟨rfl, hFn⟩; have HF1 := Lib.hid (HF.out.trans hFn (by simp)); clear hFn)
            | (go_at_call 61; refine (HHA.out _ HF1.out).mono ?_; rintro e w2 ⟨rfl, hFn⟩; have HF2 := Lib.hid (HF1.out.trans hFn (by simp)); clear hFn))
          go_roundg m'
          case rel => exact ⟨m', k + 1, rfl, by go_num, by omega, HP', HF2⟩
          case measure => omega
        | false =>
          have hse : settledN C l = k := takeWhile_len HP.out (by rw [HN.out]; omega) (.inr (by rw [hd, hok]; simp [h0]))
          rw [hse] at hR
          clear hok hd hb hse
          go_wp2_with (first
            | (go_at_call 20; refine (HTR.out _ HF.out).mono ?_; rintro e w1 ⟨rfl, hFn⟩; have HF1 := Lib.hid (HF.out.trans hFn (by simp)); clear hFn)
            | (go_at_call 61; refine (HHA.out _ HF1.out).mono ?_; rintro e w2 ⟨rfl, hFn⟩; have HF2 := Lib.hid (HF1.out.trans hFn (by simp)); clear hFn))
          exact hR.out _ _ ⟨rfl, HF2.out⟩
    · obtain rfl : k = N := by omega
      have hse : settledN C l = k := takeWhile_len HP.out (by rw [HN.out]; exact Nat.le_refl _) (.inl HN.out.symm)
      rw [hse] at hR
      clear hse
      go_wp2
      exact hR.out _ _ ⟨rfl, HF.out⟩
def cleanL : List Int → List Int → List Int
  | _, [] => []
  | met, x :: l => if x ∈ met then cleanL met l else x :: cleanL (met ++ [x]) l
theorem cleanL_cong : ∀ (l a b : List Int), (∀ x, x ∈ a ↔ x ∈ b) → cleanL a l = cleanL b l
  | [], _, _, _ => rfl
  | x :: l, a, b, h => by
    simp only [cleanL]
    by_cases hx : x ∈ a
    · rw [if_pos hx, if_pos ((h x).1 hx)]; exact cleanL_cong l a b h
    · rw [if_neg hx, if_neg (fun hb => hx ((h x).2 hb)), cleanL_cong l (a ++ [x]) (b ++ [x]) (fun y => by simp [h y])]
theorem cleanL_append : ∀ (l m met : List Int), cleanL met (l ++ m) = cleanL met l ++ cleanL (met ++ l) m
  | [], m, met => by simp [cleanL]
  | x :: l, m, met => by
    simp only [List.cons_append, cleanL]
    by_cases hx : x ∈ met
    · rw [if_pos hx, if_pos hx, cleanL_append l m met]
      congr 1
      exact cleanL_cong m _ _ (fun y => by simp only [List.mem_append, List.mem_cons]; exact ⟨fun h => h.elim .inl (fun h => .inr (.inr h)), fun h => h.elim .inl (fun h => h.elim (fun e => .inl (e ▸ hx)) .inr)⟩)
    · rw [if_neg hx, if_neg hx, List.cons_append, cleanL_append l m (met ++ [x])]
      simp
theorem cleanL_mem : ∀ (l met : List Int) (x : Int), x ∈ cleanL met l ↔ x ∈ l ∧ x ∉ met
  | [], met, x => by simp [cleanL]
  | y :: l, met, x => by
    simp only [cleanL]
    by_cases hy : y ∈ met
    · rw [if_pos hy, cleanL_mem l met x]
      constructor
      · rintro ⟨h1, h2⟩; exact ⟨by simp [h1], h2⟩
      · rintro ⟨h1, h2⟩
        rcases List.mem_cons.1 h1 with rfl | h1
        · exact absurd hy h2
        · exact ⟨h1, h2⟩
    · have hs : ∀ z : Int, z ∈ met ++ [y] ↔ z ∈ met ∨ z = y := fun z => by simp
      rw [if_neg hy, List.mem_cons, cleanL_mem l (met ++ [y]) x, hs, not_or, List.mem_cons]
      constructor
      · rintro (rfl | ⟨h1, h2, h3⟩)
        · exact ⟨.inl rfl, hy⟩
        · exact ⟨.inr h1, h2⟩
      · rintro ⟨h1, h2⟩
        by_cases e : x = y
        · exact .inl e
        · exact .inr ⟨h1.resolve_left e, h2, e⟩
theorem cleanL_nodup : ∀ (l met : List Int), (cleanL met l).Nodup
  | [], met => by simp [cleanL]
  | y :: l, met => by
    simp only [cleanL]
    by_cases hy : y ∈ met
    · rw [if_pos hy]; exact cleanL_nodup l met
    · rw [if_neg hy, List.nodup_cons]
      exact ⟨fun h => ((cleanL_mem l _ y).1 h).2 (by simp), cleanL_nodup l _⟩
theorem cleanL_same : ∀ (l met : List Int), l.Nodup → (∀ x ∈ l, x ∉ met) → cleanL met l = l
  | [], met, _, _ => rfl
  | y :: l, met, hn, hm => by
    simp only [cleanL]
    rw [if_neg (hm y (by simp))]
    have h := List.nodup_cons.1 hn
    rw [cleanL_same l (met ++ [y]) h.2 (fun x hx hxm => by
      rcases List.mem_append.1 hxm with h1 | h1
      · exact hm x (by simp [hx]) h1
      · simp at h1; subst h1; exact h.1 hx)]
theorem cleanL_twice (l : List Int) : cleanL [] (cleanL [] l) = cleanL [] l := cleanL_same _ _ (cleanL_nodup l []) (fun x _ h => by cases h)
end Go.Np.Tryz
end
section
set_option linter.unusedVariables false
set_option linter.unusedSimpArgs false
namespace Go.Np.Tryz
open Go.RowKit Go.Proofs Go.Proofs.YtlllhpnpgcphcaaGreat.PX Go.Proofs.YtlllhpnpgcphcaaGreatW.PrintWords
theorem zeroE (w : World) : (zeroValue 138).run Tryz.prog w = .ok (.agg #[]) w := by kernel_rfl
def SeenS (m : List (Int × Value)) (met : List Int) : Prop := ∀ x, alook m x = if x ∈ met then some (.agg #[]) else none
set_option maxHeartbeats 1000000 in
set_option maxRecDepth 100000 in
theorem setadd_calls {w : World} {b : Nat} {m : List (Int × Value)} {met : List Int} (hM : MapIs (fun a : Int => Value.int .i64 a) w b m) (hS : SeenS m met) (x : Int) :
    Calls Tryz.prog 89 #[.map (some b), .int .i64 x] w fun e w' => e = .returned (.bool (!decide (x ∈ met))) ∧ (∃ m', MapIs (fun a : Int => Value.int .i64 a) w' b m' ∧ SeenS m' (met ++ [x])) ∧ Fr [b] w w' := by
  have hl := hM.run_lookup keyI Tryz.underlying126 (zeroE w) x true
  simp only [if_true, hS x] at hl
  have hM1 := hM.alloc (.cells #[] 138)
  have hF1 : Fr [b] w (w.alloc (.cells #[] 138)) := (Fr.refl _ _).alloc _
  have HS := Lib.hid hS
  have HF1 := Lib.hid hF1
  refine calls_k fun R hR => ?_
  obtain ⟨q, hq⟩ : ∃ q, decide (x ∈ met) = q := ⟨_, rfl⟩
  rw [hq] at hR
  have hfin : ∀ m', (∀ z, alook m' z = if x = z then some (.agg #[]) else alook m z) → SeenS m' (met ++ [x]) := fun m' h z => by
    rw [h z, HS.out z]
    by_cases e : x = z
    · simp [e]
    · have e' : ¬ z = x := fun h => e h.symm
      simp [e, e']
  have HFIN := Lib.hid hfin
  clear hS hF1 hfin
  cases q with
  | true =>
    have hmem : x ∈ met := of_decide_eq_true hq
    rw [if_pos hmem] at hl
    simp only [Option.getD_some, Option.isSome_some] at hl
    clear hq hmem
    go_enter Tryz.func89, Tryz.ntmps89
    go_wp2_with (at_mapUpdate; refine wp_store rfl _ _ _ 126 138 rfl keyI Tryz.underlying126 rfl hM1 x rfl (.agg #[]) rfl ?_; intro w1 hM2 hF2 hs1; have HF2 := Lib.hid (HF1.out.trans hF2 (fun y hy => .inl (by simpa using hy))); have HM2 := Lib.hid hM2; clear hM2 hF2)
    exact hR.out _ _ ⟨rfl, ⟨_, HM2.out, HFIN.out _ (fun z => by rw [alook_aput])⟩, HF2.out⟩
  | false =>
    have hmem : x ∉ met := of_decide_eq_false hq
    rw [if_neg hmem] at hl
    simp only [Option.getD_none, Option.isSome_none] at hl
    clear hq hmem
    go_enter Tryz.func89, Tryz.ntmps89
    go_wp2_with (at_mapUpdate; refine wp_store rfl _ _ _ 126 138 rfl keyI Tryz.underlying126 rfl hM1 x rfl (.agg #[]) rfl ?_; intro w1 hM2 hF2 hs1; have HF2 := Lib.hid (HF1.out.trans hF2 (fun y hy => .inl (by simpa using hy))); have HM2 := Lib.hid hM2; clear hM2 hF2)
    exact hR.out _ _ ⟨rfl, ⟨_, HM2.out, HFIN.out _ (fun z => by rw [alook_aput])⟩, HF2.out⟩
theorem met_calls {w : World} {g b : Nat} {m : List (Int × Value)} {met : List Int} (hg : w.cell? ⟨g, 0, none⟩ = some (.map (some b))) (hM : MapIs (fun a : Int => Value.int .i64 a) w b m) (hS : SeenS m met) (x : Int) :
    Calls Tryz.prog 88 #[.int .i64 x, .pointer (some ⟨g, 0, none⟩)] w fun e w' => e = .returned (.bool (decide (x ∈ met))) ∧ (∃ m', MapIs (fun a : Int => Value.int .i64 a) w' b m' ∧ SeenS m' (met ++ [x])) ∧ Fr [b] w w' := by
  have HA := Lib.hid (setadd_calls hM hS x)
  refine calls_k fun R hR => ?_
  obtain ⟨q, hq⟩ : ∃ q, decide (x ∈ met) = q := ⟨_, rfl⟩
  rw [hq] at hR HA
  clear hq hM hS
  go_enter Tryz.func88, Tryz.ntmps88
  go_wp2_with (go_at_call 89; refine HA.out.mono ?_; rintro e w1 ⟨rfl, hm1, hFn⟩; have HM1 := Lib.hid hm1; have HF1 := Lib.hid hFn; clear hm1 hFn HA)
  exact hR.out _ _ ⟨by simp, HM1.out, HF1.out⟩
end Go.Np.Tryz
end
section
set_option linter.unusedVariables false
set_option linter.unusedSimpArgs false
namespace Go.Np.Tryz
open Go.RowKit Go.Proofs Go.Proofs.YtlllhpnpgcphcaaGreat.PX Go.Proofs.YtlllhpnpgcphcaaGreatW.PrintWords
theorem SeenS.cong {m : List (Int × Value)} {a b : List Int} (h : SeenS m a) (he : ∀ x, x ∈ a ↔ x ∈ b) : SeenS m b := fun x => by
  rw [h x]
  by_cases hx : x ∈ a
  · rw [if_pos hx, if_pos ((he x).1 hx)]
  · rw [if_neg hx, if_neg (fun hb => hx ((he x).2 hb))]
def SetAt (w : World) (b : Nat) (met : List Int) : Prop := ∃ m, MapIs (fun a : Int => Value.int .i64 a) w b m ∧ SeenS m met
theorem SetAt.cong {w : World} {b : Nat} {met met' : List Int} (h : SetAt w b met) (he : ∀ x, x ∈ met ↔ x ∈ met') : SetAt w b met' := by
  obtain ⟨m, h1, h2⟩ := h
  exact ⟨m, h1, h2.cong he⟩
theorem clean_next {l : List Int} {k : Nat} (hk : k < l.length) {d : Int} (hd : l.getD k 0 = d) (h : cleanL [] (l.take k) = l.take k) (hm : d ∉ l.take k) : cleanL [] (l.take (k + 1)) = l.take (k + 1) := by
  have e : l.take (k + 1) = l.take k ++ [d] := by rw [List.take_succ_eq_append_getElem hk, ← hd]; simp [List.getD_eq_getElem?_getD, hk]
  rw [e, cleanL_append, h]
  simp only [List.nil_append, cleanL]
  rw [if_neg hm]
theorem add_block (a : Addr) (k : Nat) : (a.add k).block = a.block := by
  unfold Addr.add
  split <;> rfl
theorem take_snocI {l : List Int} {k : Nat} (hk : k < l.length) {d : Int} (hd : l.getD k 0 = d) : l.take (k + 1) = l.take k ++ [d] := by
  rw [List.take_succ_eq_append_getElem hk, ← hd]; simp [List.getD_eq_getElem?_getD, hk]
set_option maxHeartbeats 1000000 in
set_option maxRecDepth 100000 in
theorem firstmet_calls {w : World} {A : Option Addr} {c g b : Nat} {l : List Int} (hC : (Kd.int .i64).C w A l.length l) (hA : ∀ ad, A = some ad → ad.block ≠ b) (hgb : g ≠ b) (hg : w.cell? ⟨g, 0, none⟩ = some (.map (some b))) (hM : SetAt w b []) :
    Calls Tryz.prog 101 #[.slice A l.length c, .func (.func 88) #[] #[.pointer (some ⟨g, 0, none⟩)]] w fun e w' => ∃ x : Int, e = .returned (.int .i64 x) ∧
      ((x = -1 ∧ cleanL [] l = l) ∨ ∃ n : Nat, x = (n : Int) ∧ n < l.length ∧ cleanL [] (l.take n) = l.take n ∧ l.getD n 0 ∈ l.take n ∧ SetAt w' b (l.take n)) ∧ Fr [b] w w' := by
  have HL := Lib.hid (fun k hk => int_at hC k hk)
  have HA := Lib.hid hA
  have HG := Lib.hid hg
  have HB : Hid (∀ W, Fr [b] w W → W.cell? ⟨g, 0, none⟩ = some (.map (some b))) := fun W hW => (hW.cell (lt_cell HG.out) (by simpa using hgb)).trans HG.out
  have hmx : l.length ≤ 9223372036854775807 := hC.2.1
  have HM0 := Lib.hid hM
  refine calls_k fun R hR => ?_
  clear hC hA hg hM
  go_enter Tryz.func101, Tryz.ntmps101
  go_wp2
  go_loopw [8] (fun u wr => ∃ (k : Nat), k ≤ l.length ∧ u = .int .i64 k ∧ Hid (cleanL [] (l.take k) = l.take k) ∧ Hid (SetAt wr b (l.take k)) ∧ Hid (Fr [b] w wr)) (fun u _ => l.length - (RowKit.intOf u).toNat)
  case atStart => exact ⟨0, Nat.zero_le _, rfl, (by show _ = _; rfl), HM0, Fr.refl _ _⟩
  case round =>
    obtain ⟨k, hk, rfl, hH, HM, HF⟩ := hrel
    clear HM0
    by_cases hlt : k < l.length
    · obtain ⟨ad, hAd, hcell⟩ := HL.out k hlt
      have hne := HA.out ad hAd
      subst hAd
      have hcell := (HF.out.cell (lt_cell hcell) (by rw [add_block, List.mem_singleton]; exact hne)).trans hcell
      obtain ⟨d, hd⟩ : ∃ d, l.getD k 0 = d := ⟨_, rfl⟩
      rw [hd] at hcell
      obtain ⟨m, hm1, hm2⟩ := HM.out
      have HC := Lib.hid (met_calls (HB.out _ HF.out) hm1 hm2 d)
      have HD := Lib.hid hd
      obtain ⟨q, hq⟩ : ∃ q, decide (d ∈ l.take k) = q := ⟨_, rfl⟩
      rw [hq] at HC
      clear hd hm1 hm2 hne
      cases q with
      | true =>
        have HQ := Lib.hid (of_decide_eq_true hq)
        clear hq
        go_wp2_with (go_at_call 88; refine HC.out.mono ?_; rintro e w1 ⟨rfl, hm1, hF1⟩; have HM1 := Lib.hid hm1; have HF1 := Lib.hid (HF.out.trans hF1 (fun y hy => .inl hy)); clear hF1 hm1 HC)
        exact hR.out _ _ ⟨_, rfl, .inr ⟨k, rfl, hlt, hH.out, by rw [HD.out]; exact HQ.out, SetAt.cong HM1.out (fun z => by
          rw [List.mem_append, List.mem_singleton]
          exact ⟨fun h => h.elim id (fun e => e ▸ HQ.out), .inl⟩)⟩, HF1.out⟩
      | false =>
        have hQ := of_decide_eq_false hq
        have HN := Lib.hid (clean_next hlt HD.out hH.out hQ)
        have HT := Lib.hid (take_snocI hlt HD.out)
        clear hq hQ
        go_wp2_with (go_at_call 88; refine HC.out.mono ?_; rintro e w1 ⟨rfl, hm1, hF1⟩; have HM1 := Lib.hid hm1; have HF1 := Lib.hid (HF.out.trans hF1 (fun y hy => .inl hy)); clear hF1 hm1 HC)
        go_roundw
        case rel => exact ⟨k + 1, by omega, by go_num, HN, (by show SetAt _ _ _; rw [HT.out]; exact HM1.out), HF1⟩
        case measure => simp [RowKit.intOf]; omega
    · obtain rfl : k = l.length := by omega
      rw [List.take_length] at hH
      go_wp2
      exact hR.out _ _ ⟨_, rfl, .inl ⟨rfl, hH.out⟩, HF.out⟩
end Go.Np.Tryz
end
section
set_option linter.unusedVariables false
set_option linter.unusedSimpArgs false
namespace Go.Np.Tryz
open Go.RowKit Go.Proofs Go.Proofs.YtlllhpnpgcphcaaGreat.PX Go.Proofs.YtlllhpnpgcphcaaGreatW.PrintWords
set_option maxHeartbeats 1000000 in
set_option maxRecDepth 100000 in
theorem grow0_calls {w : World} (n : Nat) (hn : n ≤ 1000000) :
    Calls Tryz.prog 102 #[.slice none 0 0, .int .i64 n] w fun e w' => ∃ v, e = .returned v ∧ Kd.R (Kd.int .i64) 3 w' w.heap.size (fun _ => True) v [] ∧ Below w.heap.size w w' := by
  refine calls_k fun R hR => ?_
  by_cases h0 : n = 0
  · subst h0
    go_enter Tryz.func102, Tryz.ntmps102
    go_wp2
    exact hR.out _ _ ⟨_, rfl, Kd.R_nil _ _ _ _ _, Below.refl _ _⟩
  · have hpos : (0 : Int) < (n : Int) := by omega
    have hlt : decide ((n : Int) < 0) = false := decide_eq_false (by omega)
    go_enter Tryz.func102, Tryz.ntmps102
    go_wp2_with (at_builtin; refine Kd.R_append_zeros (Kd.int .i64) (w0 := w) w.heap.size rfl _ _ 22 3 3 (.int .i64 0) 8 rfl Tryz.underlying22 Tryz.underlying3 (by rfl) rfl (by decide) (by decide) (.slice none 0 0) [] 0 (n : Int) (fun _ => True) rfl rfl ?hz (fun _ _ => trivial) (Kd.R_nil _ _ _ _ _) (by omega) (Below.refl _ _) (Nat.le_refl _) ?hl ?_
                 (case hz => rfl)
                 (case hl => simp; omega)
                 intro v1 w1 h1 h2 h3 h4
                 rw [List.nil_append, Int.toNat_natCast] at h1
                 obtain ⟨A1, c1, rfl⟩ := Kd.R_slice h1
                 rw [List.length_replicate] at h1
                 have HR1 := Lib.hid h1
                 have HB1 := Lib.hid h2
                 clear h1 h2 h3 h4)
    exact hR.out _ _ ⟨.slice A1 0 c1, rfl, (by have := Kd.R_take (m := 0) HR1.out (Nat.zero_le _); simpa using this), HB1.out⟩
end Go.Np.Tryz
end
section
set_option linter.unusedVariables false
set_option linter.unusedSimpArgs false
namespace Go.Np.Tryz
open Go.RowKit Go.Proofs Go.Proofs.YtlllhpnpgcphcaaGreat.PX Go.Proofs.YtlllhpnpgcphcaaGreatW.PrintWords
def ListsC (w : World) (A : Option Addr) (L : List (List Int)) : Prop := ∀ k, k < L.length → ∃ ad, A = some ad ∧ ∃ B c, w.cell? (ad.add k) = some (.slice B (L.getD k []).length c) ∧ (L.getD k []).length ≤ c ∧ (Kd.int .i64).C w B (L.getD k []).length (L.getD k [])
theorem flat_next {L : List (List Int)} {k : Nat} (hk : k < L.length) {l : List Int} (hl : L.getD k [] = l) : (L.take (k + 1)).flatten = (L.take k).flatten ++ l := by
  rw [List.take_succ_eq_append_getElem hk, List.flatten_append, ← hl]
  simp [List.getD_eq_getElem?_getD, hk]
theorem flat_le (L : List (List Int)) (k : Nat) : (L.take k).flatten.length ≤ L.flatten.length := by
  have h : L.flatten = (L.take k).flatten ++ (L.drop k).flatten := by rw [← List.flatten_append, List.take_append_drop]
  rw [h, List.length_append]; omega
set_option maxHeartbeats 2000000 in
set_option maxRecDepth 100000 in
theorem concat_calls {w : World} {A : Option Addr} {c : Nat} {L : List (List Int)} (hL : ListsC w A L) (hn : L.length ≤ 1000000) (hf : L.flatten.length ≤ 1000000) :
    Calls Tryz.prog 87 #[.slice A L.length c] w fun e w' => ∃ v, e = .returned v ∧ Kd.N (Kd.int .i64) 3 w' w.heap.size (fun _ => True) v L.flatten ∧ (∀ k, v.ownBlock = some k → w.heap.size ≤ k) ∧ Below w.heap.size w w' := by
  have HL := Lib.hid hL
  refine calls_k fun R hR => ?_
  obtain ⟨N, hN⟩ : ∃ N, L.length = N := ⟨_, rfl⟩
  rw [hN] at hn
  rw [hN]
  have HN := Lib.hid hN
  have HLE : Hid (∀ k, (L.take k).flatten.length ≤ 1000000) := fun k => Nat.le_trans (flat_le L k) hf
  clear hL hN
  go_enter Tryz.func87, Tryz.ntmps87
  go_upto_region 3 with (fail)
  go_loopg [3, 11] N (fun gn sz i wr => ∃ (m k s : Nat), m = gn ∧ sz = .int .i64 s ∧ i = .int .i64 k ∧ m + k = N ∧ Hid ((L.take k).flatten.length = s) ∧ w = wr)
  case atStart => exact ⟨_, 0, 0, rfl, rfl, rfl, rfl, rfl, rfl⟩
  case round =>
    obtain ⟨m, k, s, rfl, rfl, rfl, hk, HS, rfl⟩ := hrel
    have hs1 : s ≤ 1000000 := by rw [← HS.out]; exact HLE.out k
    by_cases hlt : k < N
    · obtain ⟨m', rfl⟩ : ∃ m', m = m' + 1 := ⟨m - 1, by omega⟩
      obtain ⟨ad, rfl, B, cb, hcell, hc2, hC2⟩ := HL.out k (by rw [HN.out]; exact hlt)
      obtain ⟨l, hl⟩ : ∃ l, L.getD k [] = l := ⟨_, rfl⟩
      rw [hl] at hcell hc2 hC2
      have hnx := flat_next (by rw [HN.out]; exact hlt) hl
      have HS' : Hid ((L.take (k + 1)).flatten.length = s + l.length) := by show _ = _; rw [hnx, List.length_append, HS.out]
      have hs2 : s + l.length ≤ 1000000 := by rw [← HS'.out]; exact HLE.out (k + 1)
      have hw : wrap64 ((s : Int) + (l.length : Int)) = ((s + l.length : Nat) : Int) := by rw [wr_in _ (by omega)]; omega
      have hng : decide (((s + l.length : Nat) : Int) < 0) = false := decide_eq_false (by omega)
      clear hnx hC2 hl
      go_wp2
      go_roundg m'
      case rel => exact ⟨m', k + 1, s + l.length, rfl, by go_num, by go_num, by omega, HS', rfl⟩
      case measure => omega
    · obtain rfl : k = N := by omega
      have HG := Lib.hid (grow0_calls (w := w) s hs1)
      go_upto_region 11 with (first
        | (go_at_call 102; refine HG.out.mono ?_; rintro e w1 ⟨v1, rfl, h1, h2⟩; have HR1 := Lib.hid h1; have HB1 := Lib.hid h2; clear h1 h2 HG))
      go_loopg [6, 27] k (fun gn v i wr => ∃ (m j : Nat), m = gn ∧ i = .int .i64 j ∧ m + j = k ∧ Hid (Kd.N (Kd.int .i64) 3 wr w.heap.size (fun _ => True) v (L.take j).flatten) ∧ Hid (∀ k, v.ownBlock = some k → w.heap.size ≤ k) ∧ Hid (Below w.heap.size w wr))
      case atStart => exact ⟨_, 0, rfl, rfl, rfl, Kd.R_N HR1.out, Kd.R_base HR1.out, HB1⟩
      case round =>
        obtain ⟨m2, j, rfl, rfl, hj, HV, HO, HB⟩ := hrel
        clear HR1 HB1
        by_cases hltj : j < k
        · obtain ⟨m2', rfl⟩ : ∃ m2', m2 = m2' + 1 := ⟨m2 - 1, by omega⟩
          obtain ⟨ad, rfl, B, cb, hcell, hc2, hC2⟩ := HL.out j (by rw [HN.out]; exact hltj)
          have hcell := (World.cell?_of_block (w := w) (HB.out.block _ (lt_cell hcell))).trans hcell
          obtain ⟨l, hl⟩ : ∃ l, L.getD j [] = l := ⟨_, rfl⟩
          rw [hl] at hcell hc2 hC2
          have hnx := flat_next (by rw [HN.out]; exact hltj) hl
          have HNX := Lib.hid hnx
          have HF := Lib.hid (ints_F hC2)
          have hle1 := HLE.out (j + 1)
          rw [hnx, List.length_append] at hle1
          have HLX := Lib.hid hle1
          clear hnx hC2 hl hle1
          go_wp2_with (at_builtin; refine Kd.N_append_rows (Kd.int .i64) (w0 := w) w.heap.size rfl _ _ 22 3 _ 8 rfl Tryz.underlying22 infoI rfl (by decide) (by omega) _ ((L.take j).flatten) l B l.length cb (fun _ => True) (fun k => k < w.heap.size) rfl rfl HV.out (Kd.F_below HF.out HB.out) (fun k hk => ⟨trivial, fun he => by have h2 := HO.out k he.symm; omega⟩) (fun _ _ => trivial) HB.out HB.out.size (by have := HLX.out; omega) ?_
                       intro v2 w2 h1 h2 h3 h4
                       have HV2 := Lib.hid h1
                       have HB2 := Lib.hid h2
                       have HO2 : Hid (∀ k, v2.ownBlock = some k → w.heap.size ≤ k) := fun k hk => by
                         rcases h4 with h4 | ⟨b, h4, h5⟩
                         · exact HO.out k (h4.symm.trans hk)
                         · rw [h4] at hk; injection hk with hk; subst hk; exact Nat.le_trans HB.out.size h5
                       clear h1 h2 h3 h4)
          go_roundg m2'
          case rel => exact ⟨m2', j + 1, rfl, by go_num, by omega, (by show Kd.N _ _ _ _ _ _ _; rw [HNX.out]; exact HV2.out), HO2, HB2⟩
          case measure => omega
        · obtain rfl : j = k := by omega
          have hall : (L.take j).flatten = L.flatten := by rw [List.take_of_length_le (by rw [HN.out]; exact Nat.le_refl _)]
          rw [hall] at HV
          clear hall
          go_wp2
          exact hR.out _ _ ⟨_, rfl, HV.out, HO.out, HB.out⟩
end Go.Np.Tryz
end
section
set_option linter.unusedVariables false
set_option linter.unusedSimpArgs false
namespace Go.Np.Tryz
open Go.RowKit Go.Proofs Go.Proofs.YtlllhpnpgcphcaaGreat.PX Go.Proofs.YtlllhpnpgcphcaaGreatW.PrintWords
set_option maxHeartbeats 2000000 in
set_option maxRecDepth 100000 in
theorem delete_same {w : World} {A : Option Addr} {c g b : Nat} {l : List Int} (hC : (Kd.int .i64).C w A l.length l) (hA : ∀ ad, A = some ad → ad.block ≠ b) (hgb : g ≠ b) (hg : w.cell? ⟨g, 0, none⟩ = some (.map (some b))) (hM : SetAt w b []) (hs : ∀ n, n < l.length → cleanL [] (l.take n) = l.take n → l.getD n 0 ∉ l.take n) :
    Calls Tryz.prog 86 #[.slice A l.length c, .func (.func 88) #[] #[.pointer (some ⟨g, 0, none⟩)]] w fun e w' => e = .returned (.slice A l.length c) ∧ cleanL [] l = l ∧ Fr [b] w w' := by
  have HI := Lib.hid (firstmet_calls (c := c) hC hA hgb hg hM)
  have HS := Lib.hid hs
  refine calls_k fun R hR => ?_
  clear hC hA hg hM hs
  go_enter Tryz.func86, Tryz.ntmps86
  go_upto_region 2 with (first
    | (go_at_call 101; refine HI.out.mono ?_; rintro e w1 ⟨x, rfl, hx, hF1⟩; have HX := Lib.hid hx; have HF1 := Lib.hid hF1; clear hx hF1 HI))
  rcases HX.out with ⟨rfl, hcl⟩ | ⟨n, rfl, hn, h1, h2, h3⟩
  · have HCL := Lib.hid hcl
    clear hcl HX
    go_wp2
    exact hR.out _ _ ⟨rfl, HCL.out, HF1.out⟩
  · exact absurd h2 (HS.out n hn h1)
end Go.Np.Tryz
end
section
set_option linter.unusedVariables false
set_option linter.unusedSimpArgs false
namespace Go.Np.Tryz
open Go.RowKit Go.Proofs Go.Proofs.YtlllhpnpgcphcaaGreat.PX Go.Proofs.YtlllhpnpgcphcaaGreatW.PrintWords
theorem cleanL_le : ∀ (l met : List Int), (cleanL met l).length ≤ l.length
  | [], _ => Nat.le_refl _
  | x :: l, met => by
    simp only [cleanL]
    have h1 := cleanL_le l met
    have h2 := cleanL_le l (met ++ [x])
    split
    · simp; omega
    · simp; omega
theorem clean_in {l : List Int} {k : Nat} (hk : k < l.length) {d : Int} (hd : l.getD k 0 = d) (hm : d ∈ l.take k) : cleanL [] (l.take (k + 1)) = cleanL [] (l.take k) := by
  rw [take_snocI hk hd, cleanL_append]
  simp [cleanL, hm]
theorem clean_out {l : List Int} {k : Nat} (hk : k < l.length) {d : Int} (hd : l.getD k 0 = d) (hm : d ∉ l.take k) : cleanL [] (l.take (k + 1)) = cleanL [] (l.take k) ++ [d] := by
  rw [take_snocI hk hd, cleanL_append]
  simp [cleanL, hm]
def DelIn (W : World) (r c : Nat) (l : List Int) (k : Nat) : Prop :=
  ∃ ds, W.heap[r]? = some (.cells ds 3 (0, 0)) ∧ ds.size = c ∧ (∀ p, p < (cleanL [] (l.take k)).length → ds[p]? = some (.int .i64 ((cleanL [] (l.take k)).getD p 0))) ∧ ∀ p, k ≤ p → p < l.length → ds[p]? = some (.int .i64 (l.getD p 0))
theorem DelIn.mv {W W' : World} {r c k : Nat} {l : List Int} (h : DelIn W r c l k) (he : W'.heap[r]? = W.heap[r]?) : DelIn W' r c l k := by
  obtain ⟨ds, h1, h2⟩ := h
  exact ⟨ds, he.trans h1, h2⟩
theorem DelIn.lt {W : World} {r c k : Nat} {l : List Int} (h : DelIn W r c l k) : r < W.heap.size := by
  obtain ⟨ds, h1, h2⟩ := h
  exact (Array.getElem?_eq_some_iff.1 h1).1
theorem DelIn.start {W : World} {r c n : Nat} {l : List Int} {cs : Array Value} (hr : W.heap[r]? = some (.cells cs 3 (0, 0))) (hs : cs.size = c) (hc : ∀ i, i < l.length → cs[i]? = some (.int .i64 (l.getD i 0))) (hn : n < l.length) (h1 : cleanL [] (l.take n) = l.take n) (h2 : l.getD n 0 ∈ l.take n) : DelIn W r c l (n + 1) ∧ (cleanL [] (l.take (n + 1))).length = n := by
  have e := clean_in hn rfl h2
  rw [h1] at e
  refine ⟨⟨cs, hr, hs, fun p hp => ?_, fun p _ hp => hc p hp⟩, by rw [e, List.length_take]; omega⟩
  rw [e] at hp ⊢
  rw [List.length_take] at hp
  rw [hc p (by omega)]
  simp [List.getD_eq_getElem?_getD, List.getElem?_take]
  rw [if_pos (by omega)]
theorem DelIn.skip {W : World} {r c k : Nat} {l : List Int} (h : DelIn W r c l k) (hk : k < l.length) (hm : l.getD k 0 ∈ l.take k) : DelIn W r c l (k + 1) := by
  obtain ⟨ds, h1, h2, h3, h4⟩ := h
  have e := clean_in hk rfl hm
  exact ⟨ds, h1, h2, fun p hp => by rw [e] at hp ⊢; exact h3 p hp, fun p hp hl => h4 p (by omega) hl⟩
theorem DelIn.put {W : World} {r c k o : Nat} {l : List Int} {d : Int} (h : DelIn W r c l k) (hk : k < l.length) (hd : l.getD k 0 = d) (hm : d ∉ l.take k) (ho : (cleanL [] (l.take k)).length = o) (hok : o < k) (hlc : l.length ≤ c) : DelIn (W.setCell ⟨r, o, none⟩ (.int .i64 d)) r c l (k + 1) := by
  obtain ⟨ds, h1, h2, h3, h4⟩ := h
  have e := clean_out hk hd hm
  refine ⟨_, obj_set h1 o _, by simpa using h2, fun p hp => ?_, fun p hp hl => ?_⟩
  · rw [e] at hp ⊢
    rw [List.length_append, List.length_singleton, ho] at hp
    by_cases hpo : p = o
    · subst hpo
      rw [Array.getElem?_setIfInBounds_self_of_lt (by omega)]
      rw [List.getD_eq_getElem?_getD, List.getElem?_append_right (by omega), ho]
      simp
    · rw [Array.getElem?_setIfInBounds_ne (by omega), h3 p (by omega)]
      rw [List.getD_eq_getElem?_getD, List.getD_eq_getElem?_getD, List.getElem?_append_left (by omega)]
  · rw [Array.getElem?_setIfInBounds_ne (by omega)]
    exact h4 p (by omega) hl
theorem DelIn.cells {W : World} {r c k o : Nat} {l : List Int} (h : DelIn W r c l k) (hlc : l.length ≤ c) (ho : o < k) (hk : k ≤ l.length) : (k < l.length → W.cell? ⟨r, k, none⟩ = some (.int .i64 (l.getD k 0))) ∧ (∃ u, W.cell? ⟨r, o, none⟩ = some u) ∧ W.frozen? ⟨r, o, none⟩ = false := by
  obtain ⟨ds, h1, h2, h3, h4⟩ := h
  refine ⟨fun hk => by rw [cell_of h1]; exact h4 k (Nat.le_refl _) hk, ?_, froz_of h1 _⟩
  rw [cell_of h1]
  exact ⟨ds[o]'(by omega), Array.getElem?_eq_getElem (by omega)⟩
theorem zeroInt (w : World) : (zeroValue 3).run Tryz.prog w = .ok (.int .i64 0) w := by kernel_rfl
theorem DelIn.final {W : World} {r c o : Nat} {l : List Int} (h : DelIn W r c l l.length) (hlc : l.length ≤ c) (hcm : c ≤ maxLen) (ho : (cleanL [] l).length = o) (hol : o < l.length) : ∃ W', (∀ (ty : TypeId) (cc : Nat), (Builtin.clear_ #[22] ty #[.slice (some ⟨r, o, none⟩) (l.length - o) cc]).run Tryz.prog W = .ok (.tuple #[]) W') ∧ SlI W' (.slice (some ⟨r, 0, none⟩) o c) (cleanL [] l) ∧ Fr [r] W W' := by
  obtain ⟨ds, h1, h2, h3, h4⟩ := h
  rw [List.take_length] at h3
  obtain ⟨zs, hzl, hcl⟩ := run_clear_row (P := Tryz.prog) 22 3 Tryz.underlying22 zeroInt (size := 1) rfl (by simp [Value.cells, Value.oneCell']) h1 o (l.length - o) (by omega) (by omega)
  refine ⟨_, fun ty cc => hcl ty cc, ?_, fr_setRow⟩
  have hO : OwnI 0 (W.setRow r (ds.toList.take o ++ zs ++ ds.toList.drop (o + zs.length)).toArray) (.slice (some ⟨r, 0, none⟩) o c) (cleanL [] l) := by
    refine ⟨⟨?_, .inr ⟨r, c, _, by rw [ho], Nat.zero_le _, setRow_heap W r ds _ _ _ h1, by omega, hcm, ?_, ?_⟩⟩, fun k _ => Nat.zero_le _⟩
    · simp
    · simp only [List.size_toArray, List.length_append, List.length_take, List.length_drop, Array.length_toList, hzl]
      omega
    · simp only [List.append_assoc, Nat.mul_one]
      rw [ho, List.take_append_of_le_length (by rw [List.length_take, Array.length_toList]; omega), List.take_take, Nat.min_self]
      apply List.ext_getElem?
      intro p
      rw [List.getElem?_take, List.getElem?_map]
      by_cases hp : p < o
      · rw [if_pos hp, Array.getElem?_toList, h3 p (by omega), List.getD_eq_getElem?_getD, List.getElem?_eq_getElem (by omega)]
        simp
      · rw [if_neg hp, List.getElem?_eq_none (by omega)]
        rfl
  exact hO.sl
theorem getD_at {l : List Int} {n : Nat} (h : n < l.length) : l[n]? = some (l.getD n 0) := by simp [List.getD_eq_getElem?_getD, h]
theorem take_part (l : List Int) {n m : Nat} (h : n ≤ m) : l.take m = l.take n ++ (l.take m).drop n := by
  have := List.take_append_drop n (l.take m)
  rw [List.take_take, Nat.min_eq_left h] at this
  exact this.symm
set_option maxHeartbeats 4000000 in
set_option maxRecDepth 100000 in
theorem delete_some {w : World} {r c g b n0 : Nat} {l : List Int} {cs : Array Value} (hr : w.heap[r]? = some (.cells cs 3 (0, 0))) (hs : cs.size = c) (hlc : l.length ≤ c) (hcm : c ≤ maxLen) (hcs : ∀ i, i < l.length → cs[i]? = some (.int .i64 (l.getD i 0))) (hC : (Kd.int .i64).C w (some ⟨r, 0, none⟩) l.length l) (hrb : r ≠ b) (hgb : g ≠ b) (hgr : g ≠ r) (hg : w.cell? ⟨g, 0, none⟩ = some (.map (some b))) (hM : SetAt w b [])
    (hn : n0 < l.length) (h1 : cleanL [] (l.take n0) = l.take n0) (h2 : l.getD n0 0 ∈ l.take n0) :
    Calls Tryz.prog 86 #[.slice (some ⟨r, 0, none⟩) l.length c, .func (.func 88) #[] #[.pointer (some ⟨g, 0, none⟩)]] w fun e w' => ∃ v, e = .returned v ∧ SlI w' v (cleanL [] l) ∧ Fr [b, r] w w' := by
  have hbr : b ≠ r := fun e => hrb e.symm
  have HI := Lib.hid (firstmet_calls (c := c) hC (fun ad e => by injection e with e; subst e; exact hrb) hgb hg hM)
  have HR0 : Hid (∀ W, Fr [b] w W → W.heap[r]? = some (.cells cs 3 (0, 0))) := fun W hW => (hW.block r (Array.getElem?_eq_some_iff.1 hr).1 (by simpa using hrb)).trans hr
  have HG : Hid (∀ W, Fr [b, r] w W → W.cell? ⟨g, 0, none⟩ = some (.map (some b))) := fun W hW => (hW.cell (lt_cell hg) (by simp; exact ⟨hgb, hgr⟩)).trans hg
  have HS := Lib.hid hs
  have HCS := Lib.hid hcs
  have HCM := Lib.hid hcm
  have HN1 := Lib.hid h1
  have HN2 := Lib.hid h2
  have HUN : Hid (∀ n, n < l.length → cleanL [] (l.take n) = l.take n → l.getD n 0 ∈ l.take n → n = n0) := by
    show ∀ n, n < l.length → cleanL [] (l.take n) = l.take n → l.getD n 0 ∈ l.take n → n = n0
    intro n hn' ha hb
    rcases Nat.lt_trichotomy n n0 with h | h | h
    · exfalso
      have h3 : (cleanL [] (l.take n0)).Nodup := cleanL_nodup _ _
      rw [HN1.out] at h3
      have h4 := take_part l (Nat.le_of_lt h)
      rw [h4, List.nodup_append] at h3
      refine h3.2.2 _ hb _ ?_ rfl
      rw [List.mem_iff_getElem?]
      exact ⟨0, by rw [List.getElem?_drop, List.getElem?_take, if_pos (by omega), Nat.add_zero, getD_at (by omega)]⟩
    · exact h
    · exfalso
      have h3 : (cleanL [] (l.take n)).Nodup := cleanL_nodup _ _
      rw [ha] at h3
      have h4 := take_part l (Nat.le_of_lt h)
      rw [h4, List.nodup_append] at h3
      refine h3.2.2 _ HN2.out _ ?_ rfl
      rw [List.mem_iff_getElem?]
      exact ⟨0, by rw [List.getElem?_drop, List.getElem?_take, if_pos (by omega), Nat.add_zero, getD_at (by omega)]⟩
  have hmx : l.length ≤ 9223372036854775807 := hC.2.1
  refine calls_k fun R hR => ?_
  obtain ⟨N, hN⟩ : ∃ N, l.length = N := ⟨_, rfl⟩
  rw [hN] at hmx hlc hn
  simp only [hN] at HI
  rw [hN]
  have HN := Lib.hid hN
  clear hr hs hcm hcs hC hg hM h1 h2 hN
  go_enter Tryz.func86, Tryz.ntmps86
  go_upto_region 2 with (first
    | (go_at_call 101; refine HI.out.mono ?_; rintro e w1 ⟨x, rfl, hx, hF1⟩; have HX := Lib.hid hx; have HF1 := Lib.hid hF1; clear hx hF1 HI))
  have hx : x = (n0 : Int) ∧ SetAt w1 b (l.take n0) := by
    rcases HX.out with ⟨rfl, hcl⟩ | ⟨n, rfl, hn', h1, h2, h3⟩
    · exfalso
      have h3 : (cleanL [] l).Nodup := cleanL_nodup _ _
      rw [hcl] at h3
      have h4 : l = l.take n0 ++ l.drop n0 := (List.take_append_drop n0 l).symm
      rw [h4, List.nodup_append] at h3
      refine h3.2.2 _ HN2.out _ ?_ rfl
      rw [List.mem_iff_getElem?]
      have := HN.out
      exact ⟨0, by rw [List.getElem?_drop, Nat.add_zero, getD_at (by omega)]⟩
    · have := HUN.out n (by rw [HN.out]; exact hn') h1 h2
      subst this
      exact ⟨rfl, h3⟩
  obtain ⟨rfl, hset⟩ := hx
  obtain ⟨hd1, hd2⟩ := DelIn.start (HR0.out _ HF1.out) HS.out HCS.out (by rw [HN.out]; exact hn) HN1.out HN2.out
  have HD0 := Lib.hid hd1
  have HL0 := Lib.hid hd2
  have HSET0 : Hid (SetAt w1 b (l.take (n0 + 1))) := by
    show SetAt _ _ _
    refine hset.cong (fun z => ?_)
    rw [take_snocI (by rw [HN.out]; exact hn) rfl, List.mem_append, List.mem_singleton]
    exact ⟨.inl, fun h => h.elim id (fun e => e ▸ HN2.out)⟩
  have HF0 : Hid (Fr [b, r] w w1) := HF1.out.mono (fun x hx => .inl (by simp at hx; simp [hx]))
  have hne1 : ((n0 : Int) == -1) = false := by rw [beq_eq_false_iff_ne]; omega
  clear hset hd1 hd2 HX HF1 HR0 HS HCS HUN
  go_upto_region 5 with (fail)
  clear hne1
  go_loopg [5, 6] (N - (n0 + 1)) (fun gn i j wr => ∃ (m k o : Nat), m = gn ∧ i = .int .i64 o ∧ j = .int .i64 k ∧ m + k = N ∧ o < k ∧ Hid ((cleanL [] (l.take k)).length = o) ∧ Hid (DelIn wr r c l k) ∧ Hid (SetAt wr b (l.take k)) ∧ Hid (Fr [b, r] w wr))
  case atStart => exact ⟨_, n0 + 1, n0, rfl, rfl, by go_num, by omega, by omega, HL0, HD0, HSET0, HF0⟩
  case round =>
    obtain ⟨m, k, o, rfl, rfl, rfl, hk, hok, HL, HD, HM, HF⟩ := hrel
    clear HL0 HD0 HSET0 HF0
    by_cases hlt : k < N
    · obtain ⟨m', rfl⟩ : ∃ m', m = m' + 1 := ⟨m - 1, by omega⟩
      have hkl : k < l.length := by rw [HN.out]; exact hlt
      have hcell := (HD.out.cells (o := o) (by rw [HN.out]; exact hlc) hok (Nat.le_of_lt hkl)).1 hkl
      obtain ⟨d, hd⟩ : ∃ d, l.getD k 0 = d := ⟨_, rfl⟩
      rw [hd] at hcell
      obtain ⟨mm, hm1, hm2⟩ := HM.out
      have HC := Lib.hid (met_calls (HG.out _ HF.out) hm1 hm2 d)
      have HDD := Lib.hid hd
      have HKL := Lib.hid hkl
      obtain ⟨q, hq⟩ : ∃ q, decide (d ∈ l.take k) = q := ⟨_, rfl⟩
      rw [hq] at HC
      have HT := Lib.hid (take_snocI hkl hd)
      clear hd hm1 hm2 hkl
      cases q with
      | true =>
        have HQ := Lib.hid (of_decide_eq_true hq)
        clear hq
        go_wp2_with (go_at_call 88; refine HC.out.mono ?_; rintro e w1 ⟨rfl, hm1, hF1⟩; have HM1 := Lib.hid hm1; have HF1 := Lib.hid hF1; clear hF1 hm1 HC)
        go_roundg m'
        case rel =>
          refine ⟨m', k + 1, o, rfl, rfl, by go_num, by omega, by omega, ?_, ?_, ?_, ?_⟩
          · show _ = _
            rw [clean_in HKL.out HDD.out HQ.out]; exact HL.out
          · exact (HD.out.mv (HF1.out.block r HD.out.lt (by simpa using hrb))).skip HKL.out (by rw [HDD.out]; exact HQ.out)
          · show SetAt _ _ _
            rw [HT.out]; exact HM1.out
          · exact HF.out.trans HF1.out (fun y hy => .inl (by simp at hy; simp [hy]))
        case measure => omega
      | false =>
        have HQ := Lib.hid (of_decide_eq_false hq)
        clear hq
        go_wp2_with (go_at_call 88; refine HC.out.mono ?_; rintro e w1 ⟨rfl, hm1, hF1⟩
                     have HM1 := Lib.hid hm1
                     have HF1 := Lib.hid hF1
                     have HD1 := Lib.hid (HD.out.mv (HF1.out.block r HD.out.lt (by simpa using hrb)))
                     obtain ⟨_, ⟨u, hu⟩, hfz⟩ := HD1.out.cells (o := o) (by rw [HN.out]; exact hlc) hok (Nat.le_of_lt HKL.out)
                     clear hF1 hm1 HC)
        go_roundg m'
        case rel =>
          refine ⟨m', k + 1, o + 1, rfl, by go_num, by go_num, by omega, by omega, ?_, ?_, ?_, ?_⟩
          · show _ = _
            rw [clean_out HKL.out HDD.out HQ.out, List.length_append, HL.out]; rfl
          · exact HD1.out.put HKL.out HDD.out HQ.out HL.out hok (by rw [HN.out]; exact hlc)
          · obtain ⟨m9, h8, h9⟩ := HM1.out
            exact ⟨m9, h8.setCell hbr _, by rw [HT.out]; exact h9⟩
          · exact (HF.out.trans HF1.out (fun y hy => .inl (by simp at hy; simp [hy]))).setCell (.inl (by simp)) _
        case measure => omega
    · obtain rfl : k = N := by omega
      have hkl := HN.out
      obtain ⟨W', hrun, hSl, hFr⟩ := DelIn.final (o := o) (by rw [hkl]; exact HD.out) (by rw [hkl]; exact hlc) HCM.out (by have := HL.out; rw [← hkl, List.take_length] at this; exact this) (by omega)
      rw [hkl] at hrun
      have hne : c ≠ o := by omega
      have HSl := Lib.hid hSl
      have HFr := Lib.hid (HF.out.trans hFr (fun y hy => .inl (by simp at hy; simp [hy])))
      clear hkl hSl hFr
      go_wp2
      exact hR.out _ _ ⟨_, rfl, HSl.out, HFr.out⟩
end Go.Np.Tryz
end
section
set_option linter.unusedVariables false
set_option linter.unusedSimpArgs false
namespace Go.Np.Tryz
open Go.RowKit Go.Proofs Go.Proofs.YtlllhpnpgcphcaaGreat.PX Go.Proofs.YtlllhpnpgcphcaaGreatW.PrintWords
theorem N_block2 {w : World} {base : Nat} {ok : Nat → Prop} {v : Value} {xs : List Int} (h : Kd.N (Kd.int .i64) 3 w base ok v xs) :
    (xs = [] ∧ ∃ c, v = .slice none 0 c) ∨ ∃ g c cs, v = .slice (some ⟨g, 0, none⟩) xs.length c ∧ base ≤ g ∧ w.heap[g]? = some (.cells cs 3 (0, 0)) ∧ cs.size = c ∧ c ≤ maxLen ∧ xs.length ≤ c ∧ (∀ i, i < xs.length → cs[i]? = some (.int .i64 (xs.getD i 0))) ∧ (Kd.int .i64).C w (some ⟨g, 0, none⟩) xs.length xs := by
  have h' := h
  obtain ⟨A, c, rfl⟩ := Kd.N_slice h
  obtain ⟨_, hle0, hC⟩ := Kd.N_reads' h
  obtain ⟨h0, rows, hlen, ⟨_, inner, ho, hr⟩, hf⟩ := h
  obtain ⟨hi, ho⟩ := ho
  rcases ho with hnone | ⟨g, cap, cells, e, hb, hh, hle, hmx, hsz, htk⟩
  · left
    have e1 := hnone.1
    injection e1 with e1 e2 e3
    exact ⟨List.eq_nil_of_length_eq_zero e2, c, by rw [e1, e2]⟩
  · right
    injection e with e1 e2 e3
    subst e1
    have h2 : (Kd.raw (Kd.int .i64).sz).sz = 1 := rfl
    rw [h2] at hsz
    refine ⟨g, c, cells, rfl, hb, hh, by omega, by omega, hle0, fun i hi => ?_, hC⟩
    · obtain ⟨ad, ea, hc⟩ := int_at hC i hi
      injection ea with ea
      subst ea
      have h3 : w.cell? ⟨g, i, none⟩ = some (.int .i64 (xs.getD i 0)) := by rw [addr_add _ _ rfl] at hc; simpa using hc
      rw [World.cell?, hh] at h3
      simpa using h3
theorem own_of_cells {W : World} {r c : Nat} {l : List Int} {ds : Array Value} (h1 : W.heap[r]? = some (.cells ds 3 (0, 0))) (h2 : ds.size = c) (hcm : c ≤ maxLen) (hlc : l.length ≤ c) (h3 : ∀ i, i < l.length → ds[i]? = some (.int .i64 (l.getD i 0))) : OwnI 0 W (.slice (some ⟨r, 0, none⟩) l.length c) l := by
  refine ⟨⟨by simp, .inr ⟨r, c, ds, rfl, Nat.zero_le _, h1, hlc, hcm, by omega, ?_⟩⟩, fun k _ => Nat.zero_le _⟩
  rw [Nat.mul_one]
  apply List.ext_getElem?
  intro p
  rw [List.getElem?_take, List.getElem?_map]
  by_cases hp : p < l.length
  · rw [if_pos hp, Array.getElem?_toList, h3 p hp, List.getD_eq_getElem?_getD, List.getElem?_eq_getElem hp]
    simp
  · rw [if_neg hp, List.getElem?_eq_none (by omega)]
    rfl
theorem nil_C (W : World) : (Kd.int .i64).C W none 0 [] := by
  obtain ⟨A, c, e, _, h⟩ := (OwnI.nil 0 W).sl
  injection e with e1 _ _
  rw [e1]; exact h
theorem ListsC.fr {w w' : World} {A : Option Addr} {L : List (List Int)} (h : ListsC w A L) (hF : Fr [] w w') : ListsC w' A L := by
  intro k hk
  obtain ⟨ad, h1, B, c, h2, h3, h4⟩ := h k hk
  exact ⟨ad, h1, B, c, (hF.cell (lt_cell h2) (by simp)).trans h2, h3, Kd.C_below h4 hF.below⟩
theorem clean_or (l : List Int) : (∀ n, n < l.length → cleanL [] (l.take n) = l.take n → l.getD n 0 ∉ l.take n) ∨ ∃ n, n < l.length ∧ cleanL [] (l.take n) = l.take n ∧ l.getD n 0 ∈ l.take n := by
  by_cases h : ∃ n, n < l.length ∧ cleanL [] (l.take n) = l.take n ∧ l.getD n 0 ∈ l.take n
  · exact .inr h
  · exact .inl (fun n h1 h2 h3 => h ⟨n, h1, h2, h3⟩)
theorem delete_calls {w : World} {base g b : Nat} {ok : Nat → Prop} {v : Value} {l : List Int} (h : Kd.N (Kd.int .i64) 3 w base ok v l) (hb : b < base) (hg0 : g < base) (hgb : g ≠ b) (hg : w.cell? ⟨g, 0, none⟩ = some (.map (some b))) (hM : SetAt w b []) :
    Calls Tryz.prog 86 #[v, .func (.func 88) #[] #[.pointer (some ⟨g, 0, none⟩)]] w fun e w' => ∃ u S, e = .returned u ∧ SlI w' u (cleanL [] l) ∧ Fr S w w' ∧ ∀ k ∈ S, k = b ∨ base ≤ k := by
  rcases N_block2 h with ⟨rfl, c, rfl⟩ | ⟨r, c, cs, rfl, hbr, hr, hs, hcm, hlc, hcs, hC⟩
  · have hC : (Kd.int .i64).C w none ([] : List Int).length [] := (Kd.N_reads' h).2.2
    refine (delete_same (c := c) (l := []) hC (fun ad e => by cases e) hgb hg hM (fun n hn => by simp at hn)).mono ?_
    rintro e w' ⟨rfl, _, hF⟩
    exact ⟨_, [b], rfl, ⟨none, c, rfl, Nat.zero_le _, nil_C w'⟩, hF, fun k hk => .inl (by simpa using hk)⟩
  · have hrb : r ≠ b := by omega
    have hgr : g ≠ r := by omega
    rcases clean_or l with hno | ⟨n, h1, h2, h3⟩
    · refine (delete_same (c := c) hC (fun ad e => by injection e with e; subst e; exact hrb) hgb hg hM hno).mono ?_
      rintro e w' ⟨rfl, he, hF⟩
      rw [he]
      exact ⟨_, [b], rfl, (own_of_cells ((hF.block r (Array.getElem?_eq_some_iff.1 hr).1 (by simpa using hrb)).trans hr) hs hcm hlc hcs).sl, hF, fun k hk => .inl (by simpa using hk)⟩
    · refine (delete_some hr hs hlc hcm hcs hC hrb hgb hgr hg hM h1 h2 h3).mono ?_
      rintro e w' ⟨u, rfl, hS, hF⟩
      exact ⟨u, [b, r], rfl, hS, hF, fun k hk => by
        simp at hk
        rcases hk with rfl | rfl
        · exact .inl rfl
        · exact .inr hbr⟩
set_option maxHeartbeats 4000000 in
set_option maxRecDepth 100000 in
theorem clean_calls {w : World} {A : Option Addr} {c : Nat} {L : List (List Int)} (hL : ListsC w A L) (hn : L.length ≤ 1000000) (hf : L.flatten.length ≤ 1000000) :
    Calls Tryz.prog 62 #[.slice A L.length c] w fun e w' => ∃ v, e = .returned v ∧ SlI w' v (cleanL [] L.flatten) ∧ Fr [] w w' := by
  have hmm := @run_makeMap Tryz.prog
  have HL := Lib.hid hL
  have HN := Lib.hid hn
  have HFL := Lib.hid hf
  refine calls_k fun R hR => ?_
  obtain ⟨N, hN⟩ : ∃ N, L.length = N := ⟨_, rfl⟩
  rw [hN]
  have HNN := Lib.hid hN
  obtain ⟨F, hFF⟩ : ∃ F, L.flatten = F := ⟨_, rfl⟩
  rw [hFF] at hR
  have HFF := Lib.hid hFF
  clear hL hn hf hN hFF
  go_enter Tryz.func62, Tryz.ntmps62
  go_upto_region 2 with (fail)
  obtain ⟨b, hb⟩ : ∃ b, b = w.heap.size := ⟨_, rfl⟩
  obtain ⟨W, hW⟩ : ∃ W, W = (w.alloc (.map #[] 0)).alloc (.cells #[.map (some w.heap.size)] 126) := ⟨_, rfl⟩
  have hF : Fr [] w W := by rw [hW]; exact ((Fr.refl _ _).alloc _).alloc _
  have hsz : W.heap.size = b + 2 := by rw [hW, hb]; simp
  have hMI : MapIs (fun a : Int => Value.int .i64 a) W b ([] : List (Int × Value)) := by rw [hW, hb]; exact (MapIs.made w).alloc _
  have hbox : W.cell? ⟨b + 1, 0, none⟩ = some (.map (some b)) := by
    have h1 := heap_alloc_new (w.alloc (.map #[] 0)) (.cells #[.map (some w.heap.size)] 126)
    rw [← hW] at h1
    have h2 : (w.alloc (.map #[] 0)).heap.size = b + 1 := by rw [hb]; simp
    rw [h2] at h1
    rw [cell_of h1, hb]; rfl
  have hset : SetAt W b [] := ⟨[], hMI, fun x => by simp [alook]⟩
  have HC := Lib.hid (concat_calls (c := c) (HL.out.fr hF) HN.out HFL.out)
  rw [← hW, ← hb]
  rw [HNN.out, HFF.out] at HC
  have HF := Lib.hid hF
  have HGE : Hid (∀ k, k = b ∨ W.heap.size ≤ k → w.heap.size ≤ k) := fun k hk => by rcases hk with h | h <;> omega
  have HB1 : Hid (b < W.heap.size) := by show _ < _; omega
  have HB2 : Hid (b + 1 < W.heap.size) := by show _ < _; omega
  have HB3 : Hid (b + 1 ≠ b) := by show _ ≠ _; omega
  have HSET := Lib.hid hset
  have HBOX := Lib.hid hbox
  clear hF hb hsz hset hbox hMI hW hmm
  go_wp2_with (first
    | (go_at_call 87; refine HC.out.mono ?_; rintro e w1 ⟨v, rfl, h1, h2, h3⟩
       obtain ⟨A1, c1, rfl⟩ := Kd.N_slice h1
       have hF1 := Fr.of_below [] h3
       have hs1 : SetAt w1 b [] := by
         obtain ⟨m, h5, h6⟩ := HSET.out
         exact ⟨m, h5.fr hF1 (by simp), h6⟩
       have HD := Lib.hid (delete_calls h1 (b := b) (g := b + 1) HB1.out HB2.out HB3.out ((hF1.cell (lt_cell HBOX.out) (by simp)).trans HBOX.out) hs1)
       have HF1 := Lib.hid hF1
       clear h1 h2 h3 hF1 hs1 HC)
    | (go_at_call 86; refine HD.out.mono ?_; rintro e w2 ⟨v, S, rfl, h1, h2, h3⟩
       obtain ⟨A2, c2, rfl, h4, h5⟩ := h1
       have HS2 : Hid (SlI w2 (.slice A2 (cleanL [] F).length c2) (cleanL [] F)) := ⟨A2, c2, rfl, h4, h5⟩
       have HF2 : Hid (Fr [] w w2) := (HF.out.trans HF1.out (by simp)).trans h2 (fun k hk => .inr (HGE.out k (h3 k hk)))
       clear h2 h3 h4 h5 HD))
  exact hR.out _ _ ⟨_, rfl, HS2.out, HF2.out⟩
end Go.Np.Tryz
end
section
set_option linter.unusedVariables false
set_option linter.unusedSimpArgs false
namespace Go.Np.Tryz
open Go.RowKit Go.Proofs Go.Proofs.YtlllhpnpgcphcaaGreat.PX Go.Proofs.YtlllhpnpgcphcaaGreatW.PrintWords
structure LV where
  A : Option Addr
  c : Nat
  l : List Int
def LV.v (q : LV) : Value := .slice q.A q.l.length q.c
def RowL (base : Nat) (W : World) (v : Value) (qs : List LV) : Prop := W.ownsRow 0 22 1 v qs.length (qs.map LV.v) ∧ (∀ k ∈ v.ownBlock.toList, base ≤ k) ∧ ∀ q ∈ qs, OwnI base W q.v q.l
theorem RowL.nil (base : Nat) (W : World) : RowL base W (.slice none 0 0) [] := ⟨World.ownsRow_nil _ _ _ _, by simp [Value.ownBlock], by simp⟩
theorem RowL.fr {base : Nat} {W W' : World} {v : Value} {qs : List LV} (h : RowL base W v qs) (hF : Fr [] W W') : RowL base W' v qs := ⟨row_fr h.1 hF (by simp), h.2.1, fun q hq => (h.2.2 q hq).fr hF (by simp)⟩
theorem RowL.lists {base : Nat} {W : World} {A : Option Addr} {c : Nat} {qs : List LV} (h : RowL base W (.slice A qs.length c) qs) : ListsC W A (qs.map (·.l)) := by
  intro k hk
  rw [List.length_map] at hk
  have hg : (qs.map LV.v)[k]? = some (qs[k]).v := by simp [hk]
  have hl : (qs.map (·.l)).getD k [] = (qs[k]).l := by simp [List.getD_eq_getElem?_getD, hk]
  obtain ⟨g, e, hc⟩ := row_at h.1 k _ hg
  obtain ⟨A', c', e', hle, hC⟩ := (h.2.2 _ (List.getElem_mem hk)).sl
  unfold LV.v at e' hc
  injection e' with e1 _ e3
  refine ⟨_, e, qs[k].A, qs[k].c, ?_⟩
  rw [hl]
  refine ⟨?_, by rw [e3]; exact hle, by rw [e1]; exact hC⟩
  rw [addr_add _ _ rfl]
  simpa using hc
theorem RowL.more {base : Nat} {W W' : World} {v : Value} {A' : Option Addr} {c' : Nat} {qs : List LV} {q : LV} (h : RowL base W v qs) (hb : base ≤ W.heap.size) (hq : OwnI base W q.v q.l) (hr : W'.ownsRow 0 22 1 (.slice A' (qs.length + 1) c') (qs.length + 1) (qs.map LV.v ++ [q.v])) (hF : Fr v.ownBlock.toList W W') (hfr : Fresh v.ownBlock.toList (Value.slice A' (qs.length + 1) c').ownBlock.toList W) : RowL base W' (.slice A' (qs.length + 1) c') (qs ++ [q]) := by
  refine ⟨by simpa using hr, fun k hk => ?_, fun r hr' => ?_⟩
  · rcases hfr k hk with h1 | h1
    · exact h.2.1 k h1
    · omega
  · have hro : OwnI base W r.v r.l := by
      rcases List.mem_append.1 hr' with h1 | h1
      · exact h.2.2 r h1
      · rw [List.mem_singleton.1 h1]; exact hq
    exact hro.fr hF (own_ne hro.1 h.1 (by decide))
theorem infoL : (Tryz.prog.info? 22).map (fun i => (i.zero, i.size, i.bytes)) = some (some (.slice none 0 0), 1, 24) := by kernel_rfl
theorem OwnI.mono {base base' : Nat} {W : World} {v : Value} {l : List Int} (h : OwnI base W v l) (hb : base' ≤ base) : OwnI base' W v l := ⟨h.1, fun k hk => Nat.le_trans hb (h.2 k hk)⟩
def finalL (C : Ch) (l : List Int) : List Int := cleanL [] ((l.take (settledN C l)).map C.txs).flatten
theorem settled_le (C : Ch) (l : List Int) : settledN C l ≤ l.length := by
  unfold settledN
  exact (List.takeWhile_sublist _).length_le
theorem flat_txs {C : Ch} (hG : C.t.Good) : ∀ l : List Int, (l.map C.txs).flatten.length ≤ 1200 * l.length
  | [] => by simp
  | d :: l => by
    have := flat_txs hG l
    have := txs_len hG d
    simp only [List.map_cons, List.flatten_cons, List.length_append, List.length_cons]
    omega
set_option maxHeartbeats 4000000 in
set_option maxRecDepth 100000 in
theorem final_calls {X : Nat → Prop} {w : World} {c : Nat} {C : Ch} {A : Option Addr} {cp : Nat} {l : List Int} (h : ChAt X w c C) (hG : C.t.Good) (hC : (Kd.int .i64).C w A l.length l) (hle : l.length ≤ cp) (hl : l.length ≤ 40) :
    Calls Tryz.prog 30 #[.pointer (some ⟨c, 0, none⟩), .slice A l.length cp] w fun e w' => ∃ v, e = .returned v ∧ SlI w' v (finalL C l) ∧ Fr [] w w' := by
  have HS := Lib.hid (settled_calls (cp := cp) h hC)
  have HH := Lib.hid h
  have HG := Lib.hid hG
  have HL := Lib.hid (fun k hk => int_at hC k hk)
  obtain ⟨K, hK⟩ : ∃ K, settledN C l = K := ⟨_, rfl⟩
  have hKl := settled_le C l
  rw [hK] at hKl
  have hfin : finalL C l = cleanL [] ((l.take K).map C.txs).flatten := by unfold finalL; rw [hK]
  rw [hK] at HS
  obtain ⟨N, hN⟩ : ∃ N, l.length = N := ⟨_, rfl⟩
  rw [hN] at hle hl hKl
  rw [hN] at HS
  rw [hN, hfin]
  have HN := Lib.hid hN
  have hK0 : (0 : Int) ≤ (K : Int) := by omega
  have hKc : K ≤ cp := by omega
  have hKci : (K : Int) ≤ (cp : Int) := by omega
  refine calls_k fun R hR => ?_
  clear h hG hC hK hfin hN
  go_enter Tryz.func30, Tryz.ntmps30
  go_upto_region 3 with (first
    | (go_at_call 28; refine HS.out.mono ?_; rintro e w1 ⟨rfl, hF1⟩; have HF1 := Lib.hid hF1; clear hF1 HS))
  go_loopg [5, 14] K (fun gn o i wr => ∃ (m j : Nat) (qs : List LV) (B : Option Addr) (d : Nat), m = gn ∧ o = .slice B qs.length d ∧ i = .int .i64 j ∧ m + j = K ∧ Hid (qs.length = j) ∧ Hid (qs.map (·.l) = (l.take j).map C.txs) ∧ Hid (RowL w.heap.size wr (.slice B qs.length d) qs) ∧ Hid (Fr [] w wr))
  case atStart => exact ⟨_, 0, [], none, 0, rfl, rfl, rfl, rfl, rfl, rfl, RowL.nil _ _, HF1⟩
  case round =>
    obtain ⟨m, j, qs, B, d, rfl, rfl, rfl, hj, HQ, HM, HR, HF⟩ := hrel
    by_cases hlt : j < K
    · obtain ⟨m', rfl⟩ : ∃ m', m = m' + 1 := ⟨m - 1, by omega⟩
      obtain ⟨ad, hA, hcell⟩ := HL.out j (by rw [HN.out]; omega)
      subst hA
      have hcell := (HF.out.cell (lt_cell hcell) (by simp)).trans hcell
      obtain ⟨x, hx⟩ : ∃ x, l.getD j 0 = x := ⟨_, rfl⟩
      rw [hx] at hcell
      have HT := Lib.hid (take_snocI (show j < l.length by rw [HN.out]; omega) hx)
      have HTX := Lib.hid (ch_txs (HH.out.fr HF.out) HG.out x)
      obtain ⟨T, hT⟩ : ∃ T, C.txs x = T := ⟨_, rfl⟩
      rw [hT] at HTX
      have HTT := Lib.hid hT
      have hj40 : j ≤ 40 := by omega
      clear hx hT
      go_wp2_with (first
        | (go_at_call 24; refine HTX.out.mono ?_; rintro e w2 ⟨v2, rfl, hO2, hF2⟩
           obtain ⟨A2, c2, rfl⟩ := hO2.form
           have HO2 := Lib.hid (hO2.mono HF.out.size)
           have HR2 := Lib.hid (HR.out.fr hF2)
           have HF2 := Lib.hid (HF.out.trans hF2 (by simp))
           clear hO2 hF2 HTX)
        | (at_builtin; refine wp_append1 rfl _ _ 97 22 rfl Tryz.underlying97 infoL rfl (by decide) HR2.out.1 rfl [.slice A2 T.length c2] rfl rfl (by simp [Value.oneCell']) (by rw [HQ.out]; unfold maxLen; omega) (by rw [HQ.out]; omega) ?_
           intro A3 c3 w3 h1 h2 h3
           have HR3 := Lib.hid (HR2.out.more (q := ⟨A2, c2, T⟩) HF2.out.size HO2.out h1 h2 h3)
           have HF3 := Lib.hid (HF2.out.trans h2 (fun k hk => .inr (HR2.out.2.1 k hk)))
           clear h1 h2 h3))
      go_roundg m'
      case rel =>
        refine ⟨m', j + 1, qs ++ [⟨A2, c2, T⟩], A3, c3, rfl, by rw [List.length_append]; rfl, by go_num, by omega, ?_, ?_, ?_, HF3⟩
        · show _ = _
          rw [List.length_append, HQ.out]; rfl
        · show _ = _
          rw [HT.out, List.map_append, List.map_append, HM.out, ← HTT.out]; rfl
        · show RowL _ _ _ _
          rw [List.length_append]; exact HR3.out
      case measure => omega
    · obtain rfl : j = K := by omega
      have h1 := clean_calls (c := d) HR.out.lists (by rw [List.length_map, HQ.out]; omega) (by
        rw [HM.out]
        have h2 := flat_txs HG.out (l.take j)
        have h3 : (l.take j).length ≤ j := List.length_take_le _ _
        omega)
      rw [List.length_map, HM.out] at h1
      obtain ⟨F, hFF⟩ : ∃ F, ((l.take j).map C.txs).flatten = F := ⟨_, rfl⟩
      rw [hFF] at h1 hR
      have HC := Lib.hid h1
      clear h1 hFF
      go_wp2_with (go_at_call 62; refine HC.out.mono ?_; rintro e w2 ⟨v, rfl, h1, h2⟩
                   obtain ⟨A2, c2, rfl, h4, h5⟩ := h1
                   have HS2 := Lib.hid (show SlI w2 (.slice A2 (cleanL [] F).length c2) (cleanL [] F) from ⟨A2, c2, rfl, h4, h5⟩)
                   have HF2 := Lib.hid (HF.out.trans h2 (by simp))
                   clear h2 h4 h5 HC)
      exact hR.out _ _ ⟨_, rfl, HS2.out, HF2.out⟩
end Go.Np.Tryz
end
section
set_option linter.unusedVariables false
set_option linter.unusedSimpArgs false
namespace Go.Np.Tryz
open Go.RowKit Go.Proofs Go.Proofs.YtlllhpnpgcphcaaGreat.PX Go.Proofs.YtlllhpnpgcphcaaGreatW.PrintWords
theorem lists2 {W : World} {A1 A2 : Option Addr} {c1 c2 : Nat} {l1 l2 : List Int} (h1 : SlI W (.slice A1 l1.length c1) l1) (h2 : SlI W (.slice A2 l2.length c2) l2) : ListsC (W.alloc (.cells #[.slice A1 l1.length c1, .slice A2 l2.length c2] 22)) (some ⟨W.heap.size, 0, none⟩) [l1, l2] := by
  have hF : Fr [] W (W.alloc (.cells #[.slice A1 l1.length c1, .slice A2 l2.length c2] 22)) := (Fr.refl _ _).alloc _
  intro k hk
  have hk2 : k = 0 ∨ k = 1 := by simp at hk; omega
  rcases hk2 with rfl | rfl
  · obtain ⟨A, c, e, hle, hC⟩ := h1.fr hF
    injection e with e1 _ e3
    subst e1 e3
    refine ⟨_, rfl, A1, c1, ?_, hle, hC⟩
    rw [addr_add _ _ rfl, cell_of (heap_alloc_new W _)]
    rfl
  · obtain ⟨A, c, e, hle, hC⟩ := h2.fr hF
    injection e with e1 _ e3
    subst e1 e3
    refine ⟨_, rfl, A2, c2, ?_, hle, hC⟩
    rw [addr_add _ _ rfl, cell_of (heap_alloc_new W _)]
    rfl
def availL (C : Ch) (l : List Int) : List Int := cleanL [] (finalL C l ++ C.txs C.conf)
theorem final_len {C : Ch} (hG : C.t.Good) {l : List Int} (hl : l.length ≤ 40) : (finalL C l).length ≤ 48000 := by
  have h1 := cleanL_le ((l.take (settledN C l)).map C.txs).flatten []
  have h2 := flat_txs hG (l.take (settledN C l))
  have h3 : (l.take (settledN C l)).length ≤ l.length := List.length_take_le' _ _
  unfold finalL
  omega
theorem clean2_calls {W : World} {A1 A2 : Option Addr} {c1 c2 : Nat} {l1 l2 : List Int} (h1 : SlI W (.slice A1 l1.length c1) l1) (h2 : SlI W (.slice A2 l2.length c2) l2) (hl : l1.length + l2.length ≤ 1000000) :
    Calls Tryz.prog 62 #[.slice (some ⟨W.heap.size, 0, none⟩) 2 2] (W.alloc (.cells #[.slice A1 l1.length c1, .slice A2 l2.length c2] 22)) fun e w' => ∃ A c, e = .returned (.slice A (cleanL [] (l1 ++ l2)).length c) ∧ SlI w' (.slice A (cleanL [] (l1 ++ l2)).length c) (cleanL [] (l1 ++ l2)) ∧ Fr [] W w' := by
  have hF : Fr [] W (W.alloc (.cells #[.slice A1 l1.length c1, .slice A2 l2.length c2] 22)) := (Fr.refl _ _).alloc _
  have h := clean_calls (c := 2) (lists2 h1 h2) (by simp) (by simp; omega)
  simp only [List.flatten_cons, List.flatten_nil, List.append_nil, List.length_cons, List.length_nil] at h
  refine h.mono ?_
  rintro e w' ⟨v, rfl, ⟨A, c, rfl, h4, h5⟩, h6⟩
  exact ⟨A, c, rfl, ⟨A, c, rfl, h4, h5⟩, hF.trans h6 (by simp)⟩
set_option maxHeartbeats 1000000 in
set_option maxRecDepth 100000 in
theorem avail_calls {X : Nat → Prop} {w : World} {c : Nat} {C : Ch} {A : Option Addr} {cp : Nat} {l : List Int} (h : ChAt X w c C) (hG : C.t.Good) (hC : (Kd.int .i64).C w A l.length l) (hle : l.length ≤ cp) (hl : l.length ≤ 40) :
    Calls Tryz.prog 32 #[.pointer (some ⟨c, 0, none⟩), .slice A l.length cp] w fun e w' => ∃ A' c', e = .returned (.slice A' (availL C l).length c') ∧ SlI w' (.slice A' (availL C l).length c') (availL C l) ∧ Fr [] w w' := by
  have HFI := Lib.hid (final_calls h hG hC hle hl)
  have HH := Lib.hid h
  have HG := Lib.hid hG
  obtain ⟨F, hF⟩ : ∃ F, finalL C l = F := ⟨_, rfl⟩
  obtain ⟨T, hT⟩ : ∃ T, C.txs C.conf = T := ⟨_, rfl⟩
  have hfl : F.length ≤ 48000 := by rw [← hF]; exact final_len hG hl
  have htl : T.length ≤ 1200 := by rw [← hT]; exact txs_len hG _
  have hav : availL C l = cleanL [] (F ++ T) := by unfold availL; rw [hF, hT]
  rw [hF] at HFI
  rw [hav]
  obtain ⟨N, hN⟩ : ∃ N, l.length = N := ⟨_, rfl⟩
  rw [hN] at HFI
  rw [hN]
  have HTT := Lib.hid hT
  have hsum : F.length + T.length ≤ 1000000 := by omega
  have HSUM := Lib.hid hsum
  refine calls_k fun R hR => ?_
  clear h hG hC hF hT hav hN hle hl hfl htl hsum
  go_enter Tryz.func32, Tryz.ntmps32
  go_wp2_with (first
    | (go_at_call 30; refine HFI.out.mono ?_; rintro e w1 ⟨v, rfl, ⟨A1, c1, rfl, h1, h2⟩, hF1⟩
       have HS1 := Lib.hid (show SlI w1 (.slice A1 F.length c1) F from ⟨A1, c1, rfl, h1, h2⟩)
       have HCF := Lib.hid (ch_conf (HH.out.fr hF1) HG.out)
       have HF1 := Lib.hid hF1
       clear h1 h2 hF1 HFI)
    | (go_at_call 22; refine HCF.out.mono ?_; rintro e w2 ⟨rfl, hF2⟩
       have HS2 := Lib.hid (HS1.out.fr hF2)
       have HF2 := Lib.hid (HF1.out.trans hF2 (by simp))
       have HTX := Lib.hid (ch_txs (HH.out.fr HF2.out) HG.out C.conf)
       rw [HTT.out] at HTX
       clear hF2 HCF)
    | (go_at_call 24; refine HTX.out.mono ?_; rintro e w3 ⟨v3, rfl, hO3, hF3⟩
       obtain ⟨A3, c3, rfl⟩ := hO3.form
       have HS3 := Lib.hid (HS2.out.fr hF3)
       have HT3 := Lib.hid hO3.sl
       have HF3 := Lib.hid (HF2.out.trans hF3 (by simp))
       have HCL := Lib.hid (clean2_calls HS3.out HT3.out HSUM.out)
       clear hO3 hF3 HTX)
    | (go_at_call 62; refine HCL.out.mono ?_; rintro e w4 ⟨A4, c4, rfl, h4, hF4⟩
       have HS4 := Lib.hid h4
       have HF4 := Lib.hid (HF3.out.trans hF4 (by simp))
       clear h4 hF4 HCL))
  exact hR.out _ _ ⟨_, _, rfl, HS4.out, HF4.out⟩
end Go.Np.Tryz
end
section
set_option linter.unusedVariables false
set_option linter.unusedSimpArgs false
namespace Go.Np.Tryz
open Go.RowKit Go.Proofs Go.Proofs.YtlllhpnpgcphcaaGreat.PX Go.Proofs.YtlllhpnpgcphcaaGreatW.PrintWords
theorem ints_made (w : World) (l : List Int) (hl : l.length ≤ 1000) : SlI (w.alloc (.cells (l.map (Value.int .i64)).toArray 3)) (.slice (some ⟨w.heap.size, 0, none⟩) l.length l.length) l := by
  have h : OwnI 0 (w.alloc (.cells (l.map (Value.int .i64)).toArray 3)) (.slice (some ⟨w.heap.size, 0, none⟩) l.length l.length) l := by
    refine ⟨⟨by simp, .inr ⟨w.heap.size, l.length, (l.map (Value.int .i64)).toArray, rfl, Nat.zero_le _, heap_alloc_new w _, Nat.le_refl _, by unfold maxLen; omega, by simp, ?_⟩⟩, fun k _ => Nat.zero_le _⟩
    show List.take (l.length * 1) (l.map (Value.int .i64)) = _
    rw [Nat.mul_one]; exact List.take_of_length_le (by simp)
  exact h.sl
theorem SlI.C {w : World} {A : Option Addr} {n c : Nat} {l : List Int} (h : SlI w (.slice A n c) l) : n = l.length ∧ l.length ≤ c ∧ (Kd.int .i64).C w A l.length l := by
  obtain ⟨A', c', e, hle, hC⟩ := h
  injection e with e1 e2 e3
  subst e1 e3
  exact ⟨e2, hle, hC⟩
def eB1 : Blk := ⟨1, 0, 0, 0, [⟨1, 0⟩, ⟨2, 0⟩]⟩
def eB2 : Blk := ⟨1, 1, 0, 0, [⟨1, 0⟩]⟩
def eB3 : Blk := ⟨2, 1, 0, 65792, [⟨3, 0⟩]⟩
def eT1 : Tr := ⟨[⟨65536, eB1, [65536]⟩], []⟩
def eT2 : Tr := ⟨[⟨65536, eB1, [65536]⟩, ⟨65792, eB2, [65792]⟩], []⟩
def eT3 : Tr := ⟨[⟨65536, eB1, [65536]⟩, ⟨65792, eB2, [65792]⟩, ⟨131328, eB3, [65792, 131328]⟩], []⟩
def eC0 : Ch := ⟨⟨[], []⟩, [3, 3], 0, 2⟩
def eC1 : Ch := ⟨eT1, [3, 3], 0, 2⟩
def eC2 : Ch := ⟨eT2, [3, 3], 0, 2⟩
def eC3 : Ch := ⟨eT3, [3, 3], 0, 2⟩
theorem e_add1 : (⟨[], []⟩ : Tr).add eB1 = (eT1, [65536], true) := by rfl
theorem e_add2 : eT1.add eB2 = (eT2, [65792], true) := by rfl
theorem e_add3 : eT2.add eB3 = (eT3, [131328], true) := by rfl
theorem e_take1 : eC0.take eB1 = (eC1, [65536], 0) := by rfl
theorem e_take2 : eC1.take eB2 = (eC2, [65792], 0) := by rfl
theorem e_take3 : eC2.take eB3 = (eC3, [131328], 0) := by rfl
theorem eT1_good : eT1.Good := by
  have := Tr.add_good Tr.empty_good eB1
  rw [e_add1] at this; exact this
theorem eT2_good : eT2.Good := by
  have := Tr.add_good eT1_good eB2
  rw [e_add2] at this; exact this
theorem eT3_good : eT3.Good := by
  have := Tr.add_good eT2_good eB3
  rw [e_add3] at this; exact this
theorem eT3_tip : eT3.tip = 131328 := by
  have h : eT3.names = [65536, 65792, 131328] := by
    refine strict_ext _ _ (uniq_strict _) (by simp) (fun x => ?_)
    rw [Tr.names, uniq_mem]
    simp [eT3]
  unfold Tr.tip
  rw [h]
  rfl
theorem e_conf : eC3.conf = 131328 := by
  unfold Ch.conf
  rw [show eC3.t.tip = 131328 from eT3_tip]
  rfl
theorem e_avail : availL eC3 [65536] = [1, 2, 3] := by
  unfold availL
  rw [e_conf]
  rfl
theorem e_final : finalL eC3 [65536, 6488064, 0] = [1, 2] := by rfl
theorem e_settled : settledN eC3 [0, 6488064, 0] = 1 := by rfl
theorem avail_lit {X : Nat → Prop} {W : World} {c : Nat} {C : Ch} (h : ChAt X W c C) (hG : C.t.Good) (l r : List Int) (hl : l.length ≤ 40) (hr : availL C l = r) :
    Calls Tryz.prog 32 #[.pointer (some ⟨c, 0, none⟩), .slice (some ⟨W.heap.size, 0, none⟩) l.length l.length] (W.alloc (.cells (l.map (Value.int .i64)).toArray 3)) fun e w' => ∃ A' c', e = .returned (.slice A' r.length c') ∧ SlI w' (.slice A' r.length c') r ∧ Fr [] W w' := by
  have hF : Fr [] W (W.alloc (.cells (l.map (Value.int .i64)).toArray 3)) := (Fr.refl _ _).alloc _
  have hs := (ints_made W l (by omega)).C
  have h1 := avail_calls (h.fr hF) hG hs.2.2 hs.2.1 hl
  rw [hr] at h1
  refine h1.mono ?_
  rintro e w' ⟨A, c, rfl, h2, h3⟩
  exact ⟨A, c, rfl, h2, hF.trans h3 (by simp)⟩
theorem final_lit {X : Nat → Prop} {W : World} {c : Nat} {C : Ch} (h : ChAt X W c C) (hG : C.t.Good) (l r : List Int) (hl : l.length ≤ 40) (hr : finalL C l = r) :
    Calls Tryz.prog 30 #[.pointer (some ⟨c, 0, none⟩), .slice (some ⟨W.heap.size, 0, none⟩) l.length l.length] (W.alloc (.cells (l.map (Value.int .i64)).toArray 3)) fun e w' => ∃ A' c', e = .returned (.slice A' r.length c') ∧ SlI w' (.slice A' r.length c') r ∧ Fr [] W w' := by
  have hF : Fr [] W (W.alloc (.cells (l.map (Value.int .i64)).toArray 3)) := (Fr.refl _ _).alloc _
  have hs := (ints_made W l (by omega)).C
  have h1 := final_calls (h.fr hF) hG hs.2.2 hs.2.1 hl
  rw [hr] at h1
  refine h1.mono ?_
  rintro e w' ⟨v, rfl, ⟨A, c, rfl, h4, h5⟩, h3⟩
  exact ⟨A, c, rfl, ⟨A, c, rfl, h4, h5⟩, hF.trans h3 (by simp)⟩
theorem settled_lit {X : Nat → Prop} {W : World} {c : Nat} {C : Ch} (h : ChAt X W c C) (l : List Int) (r : Nat) (hl : l.length ≤ 40) (hr : settledN C l = r) :
    Calls Tryz.prog 28 #[.pointer (some ⟨c, 0, none⟩), .slice (some ⟨W.heap.size, 0, none⟩) l.length l.length] (W.alloc (.cells (l.map (Value.int .i64)).toArray 3)) fun e w' => e = .returned (.int .i64 r) ∧ Fr [] W w' := by
  have hF : Fr [] W (W.alloc (.cells (l.map (Value.int .i64)).toArray 3)) := (Fr.refl _ _).alloc _
  have hs := (ints_made W l (by omega)).C
  have h1 := settled_calls (cp := l.length) (h.fr hF) hs.2.2
  rw [hr] at h1
  refine h1.mono ?_
  rintro e w' ⟨rfl, h3⟩
  exact ⟨rfl, hF.trans h3 (by simp)⟩
theorem same_lit {W : World} {v : Value} {l : List Int} (h : SlI W v l) (hl : l.length ≤ 1000) : Calls Tryz.prog 17 #[v, .slice (some ⟨W.heap.size, 0, none⟩) l.length l.length] (W.alloc (.cells (l.map (Value.int .i64)).toArray 3)) fun e w' => e = .returned (.bool true) ∧ Fr [] W w' := by
  have hF : Fr [] W (W.alloc (.cells (l.map (Value.int .i64)).toArray 3)) := (Fr.refl _ _).alloc _
  refine (same_sl (h.fr hF) (ints_made W l hl)).mono ?_
  rintro e w' ⟨rfl, h3⟩
  exact ⟨by simp, hF.trans h3 (by simp)⟩
set_option maxHeartbeats 4000000 in
set_option maxRecDepth 100000 in
theorem lalive_calls {w : World} : Calls Tryz.prog 26 #[] w fun e w' => e = .returned (.bool true) ∧ Fr [] w w' := by
  obtain ⟨W1, hW1⟩ : ∃ W1, W1 = w.alloc (.cells #[.int .i64 3, .int .i64 3] 3) := ⟨_, rfl⟩
  obtain ⟨g1, hg1⟩ : ∃ g, g = w.heap.size := ⟨_, rfl⟩
  have hF1 : Fr [] w W1 := by rw [hW1]; exact (Fr.refl _ _).alloc _
  have hC1 : (Kd.int .i64).C W1 (some ⟨g1, 0, none⟩) 2 [3, 3] := by rw [hW1, hg1]; exact (ints_made w [3, 3] (by simp)).C.2.2
  have HNEW := Lib.hid (ch_new (w := W1) (c := 2) (dr := [3, 3]) hC1 (by simp) 0)
  simp only [List.length_cons, List.length_nil, Nat.zero_add, Nat.reduceAdd] at HNEW
  have HF1 := Lib.hid hF1
  refine calls_k fun R hR => ?_
  clear hF1 hC1
  go_enter Tryz.func26, Tryz.ntmps26
  go_upto_region 1 with (fail)
  go_upto_region 3 with (first
    | (rw [← hW1, ← hg1]; go_at_call 8; refine HNEW.out.mono ?_; rintro e w2 ⟨c, rfl, hc2, hF2⟩
       have HF2 := Lib.hid (HF1.out.trans hF2 (by simp))
       have hX2 : ChAt (fun k => k < w.heap.size) w2 c ⟨⟨[], []⟩, [3, 3], 0, 0⟩ := hc2.less (fun k hk => Nat.lt_of_lt_of_le hk HF1.out.size)
       have HNX := Lib.hid (ch_next hX2 2)
       clear hc2 hX2 hF2 HNEW hW1 hg1)
    | (go_at_call 9; refine HNX.out.mono ?_; rintro e w4 ⟨rfl, hc4, hX4⟩
       have HC4 : Hid (ChAt (fun k => k < w.heap.size) w4 c eC0) := hc4
       have HF4 := Lib.hid (FrX.old hX4 HF2.out)
       clear hc4 hX4 HNX))
  obtain ⟨W5, hW5⟩ : ∃ W5, W5 = w4.alloc (.cells #[.int .i64 1, .int .i64 0, .int .i64 2, .int .i64 0] 67) := ⟨_, rfl⟩
  obtain ⟨g5, hg5⟩ : ∃ g, g = w4.heap.size := ⟨_, rfl⟩
  have hF5 : Fr [] w4 W5 := by rw [hW5]; exact (Fr.refl _ _).alloc _
  have hC5 : k67.C W5 (some ⟨g5, 0, none⟩) 2 [⟨1, 0⟩, ⟨2, 0⟩] := by rw [hW5, hg5]; exact txs_made w4 [⟨1, 0⟩, ⟨2, 0⟩] (by simp)
  have HF5 := Lib.hid (HF4.out.trans hF5 (by simp))
  have HTK := Lib.hid (ch_takeC (HC4.out.fr hF5) Tr.empty_good (fun k hk => Nat.lt_of_lt_of_le hk HF5.out.size) eB1 (cb := 2) hC5 (Nat.le_refl _) e_take1)
  simp only [eB1, List.length_cons, List.length_nil, Nat.zero_add, Nat.reduceAdd] at HTK
  clear hF5 hC5
  go_upto_region 4 with (first
    | (rw [← hW5, ← hg5]; go_at_call 14; refine HTK.out.mono ?_; rintro e w6 ⟨D6, d6, rfl, hO6, hc6, hX6⟩
       have HC6 := Lib.hid hc6
       have HF6 := Lib.hid (FrX.old hX6 HF5.out)
       clear hO6 hc6 hX6 HTK hW5 hg5))
  obtain ⟨W7, hW7⟩ : ∃ W7, W7 = w6.alloc (.cells #[.int .i64 1, .int .i64 0] 67) := ⟨_, rfl⟩
  obtain ⟨g7, hg7⟩ : ∃ g, g = w6.heap.size := ⟨_, rfl⟩
  have hF7 : Fr [] w6 W7 := by rw [hW7]; exact (Fr.refl _ _).alloc _
  have hC7 : k67.C W7 (some ⟨g7, 0, none⟩) 1 [⟨1, 0⟩] := by rw [hW7, hg7]; exact txs_made w6 [⟨1, 0⟩] (by simp)
  have HF7 := Lib.hid (HF6.out.trans hF7 (by simp))
  have HTK2 := Lib.hid (ch_takeC (HC6.out.fr hF7) eT1_good (fun k hk => Nat.lt_of_lt_of_le hk HF7.out.size) eB2 (cb := 1) hC7 (Nat.le_refl _) e_take2)
  simp only [eB2, List.length_cons, List.length_nil, Nat.zero_add, Nat.reduceAdd] at HTK2
  clear hF7 hC7
  go_upto_region 5 with (first
    | (rw [← hW7, ← hg7]; go_at_call 14; refine HTK2.out.mono ?_; rintro e w8 ⟨D8, d8, rfl, hO8, hc8, hX8⟩
       have HC8 := Lib.hid hc8
       have HF8 := Lib.hid (FrX.old hX8 HF7.out)
       clear hO8 hc8 hX8 HTK2 hW7 hg7))
  obtain ⟨W9, hW9⟩ : ∃ W9, W9 = w8.alloc (.cells #[.int .i64 3, .int .i64 0] 67) := ⟨_, rfl⟩
  obtain ⟨g9, hg9⟩ : ∃ g, g = w8.heap.size := ⟨_, rfl⟩
  have hF9 : Fr [] w8 W9 := by rw [hW9]; exact (Fr.refl _ _).alloc _
  have hC9 : k67.C W9 (some ⟨g9, 0, none⟩) 1 [⟨3, 0⟩] := by rw [hW9, hg9]; exact txs_made w8 [⟨3, 0⟩] (by simp)
  have HF9 := Lib.hid (HF8.out.trans hF9 (by simp))
  have HTK3 := Lib.hid (ch_takeC (HC8.out.fr hF9) eT2_good (fun k hk => Nat.lt_of_lt_of_le hk HF9.out.size) eB3 (cb := 1) hC9 (Nat.le_refl _) e_take3)
  simp only [eB3, List.length_cons, List.length_nil, Nat.zero_add, Nat.reduceAdd] at HTK3
  clear hF9 hC9
  go_upto_region 6 with (first
    | (rw [← hW9, ← hg9]; go_at_call 14; refine HTK3.out.mono ?_; rintro e w10 ⟨D10, d10, rfl, hO10, hc10, hX10⟩
       have HC10 := Lib.hid hc10
       have HF10 := Lib.hid (FrX.old hX10 HF9.out)
       have HAV := Lib.hid (avail_lit hc10 eT3_good [65536] [1, 2, 3] (by simp) e_avail)
       clear hO10 hc10 hX10 HTK3 hW9 hg9))
  simp only [List.length_cons, List.length_nil, Nat.zero_add, Nat.reduceAdd, List.map_cons, List.map_nil] at HAV
  have tok1 := Lib.hid True.intro
  go_wp2_with (first
    | (go_at_call 32; refine HAV.out.mono ?_; rintro e w11 ⟨A11, c11, rfl, hS11, hF11⟩
       have HS1 := Lib.hid (same_lit hS11 (by simp))
       simp only [List.length_cons, List.length_nil, Nat.zero_add, Nat.reduceAdd, List.map_cons, List.map_nil] at HS1
       have HF11 := Lib.hid hF11
       clear hS11 hF11 HAV)
    | (go_at_call 17; have _t := tok1; refine HS1.out.mono ?_; rintro e w12 ⟨rfl, hF12⟩
       have HF12 := Lib.hid (HF11.out.trans hF12 (by simp))
       have HFI := Lib.hid (final_lit (HC10.out.fr HF12.out) eT3_good [65536, 6488064, 0] [1, 2] (by simp) e_final)
       simp only [List.length_cons, List.length_nil, Nat.zero_add, Nat.reduceAdd, List.map_cons, List.map_nil] at HFI
       clear hF12 tok1)
    | (go_at_call 30; refine HFI.out.mono ?_; rintro e w13 ⟨A13, c13, rfl, hS13, hF13⟩
       have HS2 := Lib.hid (same_lit hS13 (by simp))
       simp only [List.length_cons, List.length_nil, Nat.zero_add, Nat.reduceAdd, List.map_cons, List.map_nil] at HS2
       have HF13 := Lib.hid (HF12.out.trans hF13 (by simp))
       clear hS13 hF13 HFI)
    | (go_at_call 17; refine HS2.out.mono ?_; rintro e w14 ⟨rfl, hF14⟩
       have HF14 := Lib.hid (HF13.out.trans hF14 (by simp))
       have HSE := Lib.hid (settled_lit (HC10.out.fr HF14.out) [0, 6488064, 0] 1 (by simp) e_settled)
       simp only [List.length_cons, List.length_nil, Nat.zero_add, Nat.reduceAdd, List.map_cons, List.map_nil] at HSE
       clear hF14 HS2)
    | (go_at_call 28; refine HSE.out.mono ?_; rintro e w15 ⟨rfl, hF15⟩
       have HF15 := Lib.hid (HF14.out.trans hF15 (by simp))
       clear hF15 HSE))
  exact hR.out _ _ ⟨rfl, HF10.out.trans HF15.out (by simp)⟩
end Go.Np.Tryz
end
section
set_option linter.unusedVariables false
set_option linter.unusedSimpArgs false
namespace Go.Np.Tryz
open Go.RowKit Go.Proofs Go.Proofs.YtlllhpnpgcphcaaGreat.PX Go.Proofs.YtlllhpnpgcphcaaGreatW.PrintWords
theorem SlI.of_C {w : World} {A : Option Addr} {c : Nat} {l : List Int} (h : (Kd.int .i64).C w A l.length l) (hc : l.length ≤ c) : SlI w (.slice A l.length c) l := ⟨A, c, rfl, hc, h⟩
def beginsB (l m : List Int) : Bool := decide (l.length ≤ m.length) && decide (l = m.take l.length)
theorem beginsB_app (l r : List Int) : beginsB l (l ++ r) = true := by unfold beginsB; simp
set_option maxHeartbeats 1000000 in
set_option maxRecDepth 100000 in
theorem begins_calls {w : World} {A B : Option Addr} {c d : Nat} {l m : List Int} (hl : SlI w (.slice A l.length c) l) (hm : SlI w (.slice B m.length d) m) :
    Calls Tryz.prog 34 #[.slice A l.length c, .slice B m.length d] w fun e w' => e = .returned (.bool (beginsB l m)) ∧ Fr [] w w' := by
  have hmd := hm.C.2.1
  by_cases hle : l.length ≤ m.length
  · have ht : SlI w (.slice B (m.take l.length).length d) (m.take l.length) := .of_C (Kd.C_take hm.C.2.2 hle) (by rw [List.length_take]; omega)
    have hs := same_sl hl ht
    rw [List.length_take, Nat.min_eq_left hle] at hs
    have hb : beginsB l m = decide (l = m.take l.length) := by unfold beginsB; simp [hle]
    rw [hb]
    obtain ⟨q, hq⟩ : ∃ q, decide (l = m.take l.length) = q := ⟨_, rfl⟩
    rw [hq] at hs
    rw [hq]
    obtain ⟨n, hn⟩ : ∃ n, l.length = n := ⟨_, rfl⟩
    obtain ⟨k, hk⟩ : ∃ k, m.length = k := ⟨_, rfl⟩
    rw [hn] at hs hle
    rw [hk] at hle hmd
    rw [hn, hk]
    have HS := Lib.hid hs
    have h1 : decide ((n : Int) ≤ (k : Int)) = true := decide_eq_true (by omega)
    have h1' : decide (n ≤ k) = true := decide_eq_true hle
    have h2 : n ≤ d := by omega
    refine calls_k fun R hR => ?_
    clear hl hm ht hs hb hq hn hk
    go_enter Tryz.func34, Tryz.ntmps34
    cases q with
    | true =>
      go_wp2_with (go_at_call 17; refine HS.out.mono ?_; rintro e w1 ⟨rfl, hF1⟩; have HF1 := Lib.hid hF1; clear hF1)
      exact hR.out _ _ ⟨rfl, HF1.out⟩
    | false =>
      go_wp2_with (go_at_call 17; refine HS.out.mono ?_; rintro e w1 ⟨rfl, hF1⟩; have HF1 := Lib.hid hF1; clear hF1)
      exact hR.out _ _ ⟨rfl, HF1.out⟩
  · have hb : beginsB l m = false := by unfold beginsB; simp [hle]
    rw [hb]
    obtain ⟨n, hn⟩ : ∃ n, l.length = n := ⟨_, rfl⟩
    obtain ⟨k, hk⟩ : ∃ k, m.length = k := ⟨_, rfl⟩
    rw [hn, hk] at hle
    rw [hn, hk]
    have h1 : decide ((n : Int) ≤ (k : Int)) = false := decide_eq_false (by omega)
    have h1' : decide (n ≤ k) = false := decide_eq_false hle
    refine calls_k fun R hR => ?_
    clear hl hm hb hn hk
    go_enter Tryz.func34, Tryz.ntmps34
    go_wp2
    exact hR.out _ _ ⟨rfl, Fr.refl _ _⟩
theorem N_own {w : World} {base : Nat} {ok : Nat → Prop} {v : Value} {xs : List Int} (h : Kd.N (Kd.int .i64) 3 w base ok v xs) : OwnI base w v xs := by
  have h' := h
  obtain ⟨A, c, rfl⟩ := Kd.N_slice h
  obtain ⟨h0, rows, hlen, ⟨_, inner, ho, hr⟩, hf⟩ := h
  obtain ⟨hi, ho⟩ := ho
  rcases ho with hnone | ⟨g, cap, cells, e, hb, hh, hle, hmx, hsz, htk⟩
  · have e1 := hnone.1
    injection e1 with e1 e2 e3
    obtain rfl : xs = [] := List.eq_nil_of_length_eq_zero e2
    subst e1 e3
    exact OwnI.nil _ _
  · rcases N_block2 h' with ⟨rfl, c', e'⟩ | ⟨r, c', cs, e', hbr, hr', hs, hcm, hlc, hcs, hC⟩
    · rw [e] at e'; cases e'
    · injection e' with e1 e2 e3
      subst e1 e3
      exact ⟨(own_of_cells hr' hs hcm hlc hcs).1, fun k hk => by simp [Value.ownBlock] at hk; omega⟩
theorem N_empty (w : World) : Kd.N (Kd.int .i64) 3 (w.alloc (.cells #[] 3)) w.heap.size (fun _ => True) (.slice (some ⟨w.heap.size, 0, none⟩) 0 0) [] :=
  Kd.R_N ⟨fun k hk => trivial, [], ⟨rfl, .inr ⟨w.heap.size, 0, #[], rfl, Nat.le_refl _, heap_alloc_new _ _, Nat.le_refl _, Nat.zero_le _, by simp, by simp⟩⟩, Reps.none _ _⟩
end Go.Np.Tryz
end
section
set_option linter.unusedVariables false
set_option linter.unusedSimpArgs false
namespace Go.Np.Tryz
open Go.RowKit Go.Proofs Go.Proofs.YtlllhpnpgcphcaaGreat.PX Go.Proofs.YtlllhpnpgcphcaaGreatW.PrintWords
theorem OwnI.empty (w : World) : OwnI w.heap.size (w.alloc (.cells #[] 3)) (.slice (some ⟨w.heap.size, 0, none⟩) ([] : List Int).length 0) [] := N_own (N_empty w)
end Go.Np.Tryz
end
section
set_option linter.unusedVariables false
set_option linter.unusedSimpArgs false
namespace Go.Np.Tryz
open Go.RowKit Go.Proofs Go.Proofs.YtlllhpnpgcphcaaGreat.PX Go.Proofs.YtlllhpnpgcphcaaGreatW.PrintWords
def OkDr (dr : List Int) : Prop := ∀ d ∈ dr, 0 ≤ d ∧ d ≤ 127
theorem bit_eq : ∀ d : Fin 128, ∀ m : Fin 7, bitW ((d : Nat) : Int) ((m : Nat) : Int) = (((d : Nat) : Int) / (((2 ^ (m : Nat) : Nat)) : Int) % 2 == 1) := by decide +kernel
theorem wins_bit {dr : List Int} (hd : OkDr dr) {k : Nat} (hk : k < dr.length) {m : Nat} (hm : m < 7) : winsB dr ((k : Int) + 1) (m : Int) = (dr.getD k 0 / ((2 ^ m : Nat) : Int) % 2 == 1) := by
  have hmem : dr.getD k 0 ∈ dr := by rw [List.getD_eq_getElem?_getD, List.getElem?_eq_getElem hk]; exact List.getElem_mem _
  obtain ⟨h0, h1⟩ := hd _ hmem
  have h2 := bit_eq ⟨(dr.getD k 0).toNat, by omega⟩ ⟨m, hm⟩
  simp only at h2
  rw [Int.toNat_of_nonneg h0] at h2
  have hr : rd dr ((k : Int) + 1 - 1) = dr.getD k 0 := by
    rw [show (k : Int) + 1 - 1 = (k : Int) by omega]; simp [rd]
  have e1 : decide ((1 : Int) ≤ (k : Int) + 1) = true := decide_eq_true (by omega)
  have e2 : decide ((k : Int) + 1 ≤ (dr.length : Int)) = true := decide_eq_true (by omega)
  have e3 : decide ((0 : Int) ≤ (m : Int)) = true := decide_eq_true (by omega)
  have e4 : decide ((m : Int) < 7) = true := decide_eq_true (by omega)
  unfold winsB
  rw [hr, h2, e1, e2, e3, e4]
  rfl
theorem wins_out {dr : List Int} {s m : Int} (h : s < 1 ∨ (dr.length : Int) < s ∨ m < 0 ∨ 6 < m) : winsB dr s m = false := by
  unfold winsB
  rcases h with h | h | h | h
  · rw [decide_eq_false (show ¬ 1 ≤ s by omega)]; rfl
  · rw [decide_eq_false (show ¬ s ≤ (dr.length : Int) by omega)]; simp
  · rw [decide_eq_false (show ¬ 0 ≤ m by omega)]; simp
  · rw [decide_eq_false (show ¬ m < 7 by omega)]; simp
theorem ixb0 (w : World) : (Instr.index 105 (.agg #[.int .i64 1, .int .i64 2, .int .i64 4, .int .i64 8, .int .i64 16, .int .i64 32, .int .i64 64]) (.int .i64 0)).run Tryz.prog w = .ok (.int .i64 1) w := by kernel_rfl
theorem ixb1 (w : World) : (Instr.index 105 (.agg #[.int .i64 1, .int .i64 2, .int .i64 4, .int .i64 8, .int .i64 16, .int .i64 32, .int .i64 64]) (.int .i64 1)).run Tryz.prog w = .ok (.int .i64 2) w := by kernel_rfl
theorem ixb2 (w : World) : (Instr.index 105 (.agg #[.int .i64 1, .int .i64 2, .int .i64 4, .int .i64 8, .int .i64 16, .int .i64 32, .int .i64 64]) (.int .i64 2)).run Tryz.prog w = .ok (.int .i64 4) w := by kernel_rfl
theorem ixb3 (w : World) : (Instr.index 105 (.agg #[.int .i64 1, .int .i64 2, .int .i64 4, .int .i64 8, .int .i64 16, .int .i64 32, .int .i64 64]) (.int .i64 3)).run Tryz.prog w = .ok (.int .i64 8) w := by kernel_rfl
theorem ixb4 (w : World) : (Instr.index 105 (.agg #[.int .i64 1, .int .i64 2, .int .i64 4, .int .i64 8, .int .i64 16, .int .i64 32, .int .i64 64]) (.int .i64 4)).run Tryz.prog w = .ok (.int .i64 16) w := by kernel_rfl
theorem ixb5 (w : World) : (Instr.index 105 (.agg #[.int .i64 1, .int .i64 2, .int .i64 4, .int .i64 8, .int .i64 16, .int .i64 32, .int .i64 64]) (.int .i64 5)).run Tryz.prog w = .ok (.int .i64 32) w := by kernel_rfl
theorem ixb6 (w : World) : (Instr.index 105 (.agg #[.int .i64 1, .int .i64 2, .int .i64 4, .int .i64 8, .int .i64 16, .int .i64 32, .int .i64 64]) (.int .i64 6)).run Tryz.prog w = .ok (.int .i64 64) w := by kernel_rfl
set_option maxHeartbeats 4000000 in
set_option maxRecDepth 100000 in
theorem rwins_calls {w : World} {A : Option Addr} {c : Nat} {dr : List Int} (hC : (Kd.int .i64).C w A dr.length dr) (hd : OkDr dr) (s m : Int) :
    Calls Tryz.prog 42 #[.slice A dr.length c, .int .i64 s, .int .i64 m] w fun e w' => e = .returned (.bool (winsB dr s m)) ∧ Fr [] w w' := by
  refine calls_k fun R hR => ?_
  have hmx : dr.length ≤ 9223372036854775807 := hC.2.1
  by_cases h1 : s < 1
  · rw [wins_out (.inl h1)] at hR
    have g1 : decide (s < 1) = true := decide_eq_true h1
    clear hC hd
    go_enter Tryz.func42, Tryz.ntmps42
    go_wp2
    exact hR.out _ _ ⟨rfl, Fr.refl _ _⟩
  have g1 : decide (s < 1) = false := decide_eq_false h1
  by_cases h2 : (dr.length : Int) < s
  · rw [wins_out (.inr (.inl h2))] at hR
    have g2 : decide ((dr.length : Int) < s) = true := decide_eq_true h2
    clear hC hd
    go_enter Tryz.func42, Tryz.ntmps42
    go_wp2
    exact hR.out _ _ ⟨rfl, Fr.refl _ _⟩
  have g2 : decide ((dr.length : Int) < s) = false := decide_eq_false h2
  by_cases h3 : m < 0
  · rw [wins_out (.inr (.inr (.inl h3)))] at hR
    have g3 : decide (m < 0) = true := decide_eq_true h3
    clear hC hd
    go_enter Tryz.func42, Tryz.ntmps42
    go_wp2
    exact hR.out _ _ ⟨rfl, Fr.refl _ _⟩
  have g3 : decide (m < 0) = false := decide_eq_false h3
  by_cases h4 : 6 < m
  · rw [wins_out (.inr (.inr (.inr h4)))] at hR
    have g4 : decide (6 < m) = true := decide_eq_true h4
    clear hC hd
    go_enter Tryz.func42, Tryz.ntmps42
    go_wp2
    exact hR.out _ _ ⟨rfl, Fr.refl _ _⟩
  have g4 : decide (6 < m) = false := decide_eq_false h4
  obtain ⟨k, rfl⟩ : ∃ k : Nat, s = (k : Int) + 1 := ⟨(s - 1).toNat, by omega⟩
  obtain ⟨q, rfl⟩ : ∃ q : Nat, m = (q : Int) := ⟨m.toNat, by omega⟩
  have hk : k < dr.length := by omega
  have hq : q < 7 := by omega
  rw [wins_bit hd hk hq] at hR
  obtain ⟨ad, hA, hcell⟩ := int_at hC k hk
  subst hA
  have hmem : dr.getD k 0 ∈ dr := by rw [List.getD_eq_getElem?_getD, List.getElem?_eq_getElem hk]; exact List.getElem_mem _
  obtain ⟨hd0, hd1⟩ := hd _ hmem
  obtain ⟨d, hdd⟩ : ∃ d, dr.getD k 0 = d := ⟨_, rfl⟩
  rw [hdd] at hR hcell hd0 hd1
  have hsub : wrap64 ((k : Int) + 1 - 1) = (k : Int) := by rw [wr_in _ (by omega)]; omega
  have i0 : ∀ (j : Nat), j < 7 → ∀ w, (Instr.index 105 (.agg #[.int .i64 1, .int .i64 2, .int .i64 4, .int .i64 8, .int .i64 16, .int .i64 32, .int .i64 64]) (.int .i64 j)).run Tryz.prog w = .ok (.int .i64 ((2 ^ j : Nat) : Int)) w := by
    intro j hj w
    have hj' : j = 0 ∨ j = 1 ∨ j = 2 ∨ j = 3 ∨ j = 4 ∨ j = 5 ∨ j = 6 := by omega
    rcases hj' with rfl | rfl | rfl | rfl | rfl | rfl | rfl
    · exact ixb0 w
    · exact ixb1 w
    · exact ixb2 w
    · exact ixb3 w
    · exact ixb4 w
    · exact ixb5 w
    · exact ixb6 w
  have ix := fun w => i0 q hq w
  obtain ⟨bt, hbt⟩ : ∃ bt : Int, ((2 ^ q : Nat) : Int) = bt := ⟨_, rfl⟩
  rw [hbt] at hR
  rw [hbt] at ix
  have hb1 : 1 ≤ bt := by rw [← hbt]; have := Nat.one_le_two_pow (n := q); omega
  have hT : (d / bt).tmod 2 = d / bt % 2 := Int.tmod_eq_emod_of_nonneg (Int.ediv_nonneg hd0 (by omega))
  rw [← hT] at hR
  clear hC hd i0 hdd hmem hbt h1 h2 h3 h4 hsub hT
  go_enter Tryz.func42, Tryz.ntmps42
  go_wp2
  exact hR.out _ _ ⟨rfl, Fr.refl _ _⟩
theorem results_c {P : Program} {fn : Func} {p : Tmp} {ty : TypeId} (h : fn.results = #[.cell p ty]) (tmps : Array Value) (w : World) (g : Nat) (t : TypeId) (cs : Array Value) (fr : Nat × Nat) (d : TypeDesc)
    (hp : tmps.getD p undef = .pointer (some ⟨g, 0, none⟩)) (hg : w.heap[g]? = some (.cells cs t fr))
    (hu : P.underlying ty = some d) (hd : (match d with | .struct _ | .array _ _ => true | _ => false) = true) (hi : (P.info? ty).map (·.size) = some cs.size) :
    (results fn tmps).run P w = .ok (.agg cs) w := by
  have hp' : tmps[p]?.getD undef = .pointer (some ⟨g, 0, none⟩) := by simpa using hp
  simp [results, h, hp', asAddr, run_loadVar_row w g t ty cs fr d hg hu hd hi]
def RChIn (W : World) (g : Nat) (v0 v1 vd : Value) (deep slot : Int) : Prop := W.heap[g]? = some (.cells #[v0, v1, vd, .int .i64 deep, .int .i64 slot] 32 (0, 0))
theorem RChIn.fr {W W' : World} {g : Nat} {v0 v1 vd : Value} {deep slot : Int} (h : RChIn W g v0 v1 vd deep slot) (hF : Fr [] W W') : RChIn W' g v0 v1 vd deep slot := (hF.block g (Array.getElem?_eq_some_iff.1 h).1 (by simp)).trans h
theorem RChIn.lt {W : World} {g : Nat} {v0 v1 vd : Value} {deep slot : Int} (h : RChIn W g v0 v1 vd deep slot) : g < W.heap.size := (Array.getElem?_eq_some_iff.1 h).1
set_option maxHeartbeats 4000000 in
set_option maxRecDepth 100000 in
theorem rnext_calls {w : World} (A0 A1 Ad : Option Addr) (n0 c0 n1 c1 nd cd : Nat) (deep slot s : Int) (hlt : slot < s) :
    Calls Tryz.prog 10 #[.agg #[.slice A0 n0 c0, .slice A1 n1 c1, .slice Ad nd cd, .int .i64 deep, .int .i64 slot], .int .i64 s] w fun e w' => e = .returned (.agg #[.slice A0 n0 c0, .slice A1 n1 c1, .slice Ad nd cd, .int .i64 deep, .int .i64 s]) ∧ Fr [] w w' := by
  refine calls_k fun R hR => ?_
  have g1 : decide (slot < s) = true := decide_eq_true hlt
  clear hlt
  go_enter Tryz.func10, Tryz.ntmps10
  go_wp2
  obtain ⟨W1, hW1⟩ : ∃ W1, W1 = w.alloc (.cells #[.slice A0 n0 c0, .slice A1 n1 c1, .slice Ad nd cd, .int .i64 deep, .int .i64 s] 32) := ⟨_, rfl⟩
  have hs : W1.heap.size = w.heap.size + 1 := by rw [hW1]; simp
  have hF : Fr [] w W1 := by rw [hW1]; exact (Fr.refl _ _).alloc _
  have hb := heap_alloc_new W1 (.cells #[.slice A0 n0 c0, .slice A1 n1 c1, .slice Ad nd cd, .int .i64 deep, .int .i64 s] 32)
  rw [hs] at hb
  rw [← hW1]
  refine bodyPost_ret (results_c rfl _ _ (w.heap.size + 1) 32 _ (0, 0) _ rfl hb Tryz.underlying32 rfl (by kernel_rfl)) rfl ?_
  exact hR.out _ _ ⟨rfl, hF.alloc _⟩
end Go.Np.Tryz
end
section
set_option linter.unusedVariables false
set_option linter.unusedSimpArgs false
namespace Go.Np.Tryz
open Go.RowKit Go.Proofs Go.Proofs.YtlllhpnpgcphcaaGreat.PX Go.Proofs.YtlllhpnpgcphcaaGreatW.PrintWords
theorem rright_calls {w : World} (b : Blk) (A : Option Addr) (c : Nat) (h : Kd.C k67 w A b.f4.length b.f4) (hc : b.f4.length ≤ c) (hr : rng b) :
    Calls Tryz.prog 43 #[.agg #[.int .i64 b.f0, .int .i64 b.f1, .int .i64 b.f2, .int .i64 b.f3, .slice A b.f4.length c]] w fun e w' => e = .returned (.bool (rightB b)) ∧ Fr [] w w' :=
  (neaptideref07_Right.calls 70 b.f0 b.f1 b.f2 b.f3 A c b.f4 (rightB b) w h hc (rright_ev b hr 70 (by omega))).mono (fun e w' h => ⟨h.1, Fr.of_below [] h.2⟩)
def RTakeRes (P : Nat → Prop) (w : World) (C : Ch) (Ad : Option Addr) (cd : Nat) (b : Blk) (e : Ending) (w' : World) : Prop :=
  ∃ B0 d0 B1 d1 D d, e = .returned (.tuple #[.agg #[.slice B0 (C.take b).1.t.ks.length d0, .slice B1 (C.take b).1.t.wait.length d1, .slice Ad C.dr.length cd, .int .i64 C.deep, .int .i64 C.slot], .slice D (C.take b).2.1.length d, .int .i64 (C.take b).2.2]) ∧
    VB w' (fun k => P k ∨ w.heap.size ≤ k) (.slice B0 (C.take b).1.t.ks.length d0) (C.take b).1.t.ks ∧ VB w' (fun k => P k ∨ w.heap.size ≤ k) (.slice B1 (C.take b).1.t.wait.length d1) (C.take b).1.t.wait ∧ SlI w' (.slice D (C.take b).2.1.length d) (C.take b).2.1 ∧ Fr [] w w'
theorem take_boxes (w : World) (a0 a1 a2 a3 a4 b0 b1 b2 b3 b4 : Value) :
    (((w.alloc (.cells #[a0, a1, a2, a3, a4] 32)).alloc (.cells #[b0, b1, b2, b3, b4] 35)).alloc (.cells #[.slice none 0 0, .slice none 0 0, .slice none 0 0, .int .i64 0, .int .i64 0] 32)).heap[w.heap.size]? = some (.cells #[a0, a1, a2, a3, a4] 32 (0, 0)) ∧
    (((w.alloc (.cells #[a0, a1, a2, a3, a4] 32)).alloc (.cells #[b0, b1, b2, b3, b4] 35)).alloc (.cells #[.slice none 0 0, .slice none 0 0, .slice none 0 0, .int .i64 0, .int .i64 0] 32)).heap[w.heap.size + 1]? = some (.cells #[b0, b1, b2, b3, b4] 35 (0, 0)) ∧
    (((w.alloc (.cells #[a0, a1, a2, a3, a4] 32)).alloc (.cells #[b0, b1, b2, b3, b4] 35)).alloc (.cells #[.slice none 0 0, .slice none 0 0, .slice none 0 0, .int .i64 0, .int .i64 0] 32)).heap[w.heap.size + 1 + 1]? = some (.cells #[.slice none 0 0, .slice none 0 0, .slice none 0 0, .int .i64 0, .int .i64 0] 32 (0, 0)) ∧
    Fr [] w (((w.alloc (.cells #[a0, a1, a2, a3, a4] 32)).alloc (.cells #[b0, b1, b2, b3, b4] 35)).alloc (.cells #[.slice none 0 0, .slice none 0 0, .slice none 0 0, .int .i64 0, .int .i64 0] 32)) := by
  generalize hA : w.alloc (.cells #[a0, a1, a2, a3, a4] 32) = A
  generalize hB : A.alloc (.cells #[b0, b1, b2, b3, b4] 35) = B
  generalize hC : B.alloc (.cells #[.slice none 0 0, .slice none 0 0, .slice none 0 0, .int .i64 0, .int .i64 0] 32) = C
  have hsA : A.heap.size = w.heap.size + 1 := by rw [← hA]; simp
  have hsB : B.heap.size = w.heap.size + 1 + 1 := by rw [← hB]; simp [hsA]
  have fA : Fr [] w A := by rw [← hA]; exact (Fr.refl _ _).alloc _
  have fB : Fr [] A B := by rw [← hB]; exact (Fr.refl _ _).alloc _
  have fC : Fr [] B C := by rw [← hC]; exact (Fr.refl _ _).alloc _
  have e1 := heap_alloc_new w (.cells #[a0, a1, a2, a3, a4] 32)
  have e2 := heap_alloc_new A (.cells #[b0, b1, b2, b3, b4] 35)
  have e3 := heap_alloc_new B (.cells #[.slice none 0 0, .slice none 0 0, .slice none 0 0, .int .i64 0, .int .i64 0] 32)
  rw [hA] at e1
  rw [hB, hsA] at e2
  rw [hC, hsB] at e3
  exact ⟨((fB.trans fC (by simp)).block _ (by omega) (by simp)).trans e1, (fC.block _ (by omega) (by simp)).trans e2, e3, (fA.trans fB (by simp)).trans fC (by simp)⟩
theorem Ch.take_no {C : Ch} {b : Blk} (h : ¬ (rightB b = true ∧ b.f0 ≤ C.slot ∧ winsB C.dr b.f0 b.f1 = true)) : C.take b = (C, [], 111) := by unfold Ch.take; rw [if_neg h]
set_option maxHeartbeats 4000000 in
set_option maxRecDepth 100000 in
theorem rtake_no {P : Nat → Prop} {w : World} {C : Ch} {A0 A1 Ad : Option Addr} {c0 c1 cd : Nat} (hD : OkDr C.dr) (h0 : VB w P (.slice A0 C.t.ks.length c0) C.t.ks) (h1 : VB w P (.slice A1 C.t.wait.length c1) C.t.wait) (hd : (Kd.int .i64).C w Ad C.dr.length C.dr) (q : BV) (hc : q.b.f4.length ≤ q.c) (hF : Kd.F k67 w P q.A q.b.f4.length q.b.f4) (hr : rng q.b) (hno : ¬ (rightB q.b = true ∧ q.b.f0 ≤ C.slot ∧ winsB C.dr q.b.f0 q.b.f1 = true)) :
    Calls Tryz.prog 16 #[.agg #[.slice A0 C.t.ks.length c0, .slice A1 C.t.wait.length c1, .slice Ad C.dr.length cd, .int .i64 C.deep, .int .i64 C.slot], .agg #[.int .i64 q.b.f0, .int .i64 q.b.f1, .int .i64 q.b.f2, .int .i64 q.b.f3, .slice q.A q.b.f4.length q.c]] w fun e w' => RTakeRes P w C Ad cd q.b e w' := by
  refine calls_k fun R hR => ?_
  unfold RTakeRes at hR
  rw [Ch.take_no hno] at hR
  have HRI : Hid (∀ W, Fr [] w W → Calls Tryz.prog 43 #[.agg #[.int .i64 q.b.f0, .int .i64 q.b.f1, .int .i64 q.b.f2, .int .i64 q.b.f3, .slice q.A q.b.f4.length q.c]] W fun e w' => e = .returned (.bool (rightB q.b)) ∧ Fr [] W w') := fun W hW => rright_calls q.b q.A q.c (Kd.C_below (Kd.F_now hF) hW.below) hc hr
  have HWI : Hid (∀ W, Fr [] w W → Calls Tryz.prog 42 #[.slice Ad C.dr.length cd, .int .i64 q.b.f0, .int .i64 q.b.f1] W fun e w' => e = .returned (.bool (winsB C.dr q.b.f0 q.b.f1)) ∧ Fr [] W w') := fun W hW => rwins_calls (Kd.C_below hd hW.below) hD _ _
  have H0 : Hid (∀ W, Fr [] w W → VB W (fun k => P k ∨ w.heap.size ≤ k) (.slice A0 C.t.ks.length c0) C.t.ks) := fun W hW => (h0.fr hW).weak (fun k hk => .inl hk)
  have H1 : Hid (∀ W, Fr [] w W → VB W (fun k => P k ∨ w.heap.size ≤ k) (.slice A1 C.t.wait.length c1) C.t.wait) := fun W hW => (h1.fr hW).weak (fun k hk => .inl hk)
  obtain ⟨b, A, c⟩ := q
  obtain ⟨f0, f1, f2, f3, f4⟩ := b
  dsimp only at *
  obtain ⟨x, hx⟩ : ∃ x, rightB ⟨f0, f1, f2, f3, f4⟩ = x := ⟨_, rfl⟩
  obtain ⟨y, hy⟩ : ∃ y, winsB C.dr f0 f1 = y := ⟨_, rfl⟩
  rw [hx] at HRI hno
  rw [hy] at HWI hno
  obtain ⟨nk, hnk⟩ : ∃ nk, C.t.ks.length = nk := ⟨_, rfl⟩
  obtain ⟨nw, hnw⟩ : ∃ nw, C.t.wait.length = nw := ⟨_, rfl⟩
  obtain ⟨nd, hnd⟩ : ∃ nd, C.dr.length = nd := ⟨_, rfl⟩
  obtain ⟨n4, hn4⟩ : ∃ n4, f4.length = n4 := ⟨_, rfl⟩
  rw [hnk, hnw, hnd] at hR
  rw [hnk] at H0
  rw [hnw] at H1
  rw [hnd] at HWI
  rw [hn4] at HRI
  rw [hnk, hnw, hnd, hn4]
  obtain ⟨dp, hdp⟩ : ∃ dp, C.deep = dp := ⟨_, rfl⟩
  obtain ⟨sl, hsl⟩ : ∃ sl, C.slot = sl := ⟨_, rfl⟩
  rw [hdp, hsl] at hR
  rw [hsl] at hno
  rw [hdp, hsl]
  obtain ⟨W1, hW1⟩ : ∃ W1, W1 = ((w.alloc (.cells #[.slice A0 nk c0, .slice A1 nw c1, .slice Ad nd cd, .int .i64 dp, .int .i64 sl] 32)).alloc (.cells #[.int .i64 f0, .int .i64 f1, .int .i64 f2, .int .i64 f3, .slice A n4 c] 35)).alloc (.cells #[.slice none 0 0, .slice none 0 0, .slice none 0 0, .int .i64 0, .int .i64 0] 32) := ⟨_, rfl⟩
  have HNO := Lib.hid hno
  clear hD h0 h1 hd hc hF hr hx hy hnk hnw hnd hn4 hdp hsl
  go_enter Tryz.func16, Tryz.ntmps16
  go_upto_region 1 with (fail)
  obtain ⟨g2, hg2⟩ : ∃ g, g = w.heap.size := ⟨_, rfl⟩
  obtain ⟨g3, hg3⟩ : ∃ g, g = w.heap.size + 1 := ⟨_, rfl⟩
  obtain ⟨g4, hg4⟩ : ∃ g, g = w.heap.size + 1 + 1 := ⟨_, rfl⟩
  obtain ⟨hbb2, hbb3, hbb4, hff1⟩ := take_boxes w (.slice A0 nk c0) (.slice A1 nw c1) (.slice Ad nd cd) (.int .i64 dp) (.int .i64 sl) (.int .i64 f0) (.int .i64 f1) (.int .i64 f2) (.int .i64 f3) (.slice A n4 c)
  rw [← hW1] at hbb2 hbb3 hbb4 hff1
  rw [← hg2] at hbb2
  rw [← hg3] at hbb3
  rw [← hg4] at hbb4
  have HF1 := Lib.hid hff1
  have HG4 : Hid (w.heap.size ≤ g4) := by show _ ≤ _; omega
  have HB2 : Hid (∀ W, Fr [] W1 W → W.heap[g2]? = some (.cells #[.slice A0 nk c0, .slice A1 nw c1, .slice Ad nd cd, .int .i64 dp, .int .i64 sl] 32 (0, 0))) := fun W hW => (hW.block g2 (Array.getElem?_eq_some_iff.1 hbb2).1 (by simp)).trans hbb2
  have HB3 : Hid (∀ W, Fr [] W1 W → W.heap[g3]? = some (.cells #[.int .i64 f0, .int .i64 f1, .int .i64 f2, .int .i64 f3, .slice A n4 c] 35 (0, 0))) := fun W hW => (hW.block g3 (Array.getElem?_eq_some_iff.1 hbb3).1 (by simp)).trans hbb3
  have HB4 : Hid (∀ W, Fr [] W1 W → W.heap[g4]? = some (.cells #[.slice none 0 0, .slice none 0 0, .slice none 0 0, .int .i64 0, .int .i64 0] 32 (0, 0))) := fun W hW => (hW.block g4 (Array.getElem?_eq_some_iff.1 hbb4).1 (by simp)).trans hbb4
  rw [← hW1, ← hg4, ← hg3, ← hg2]
  have HNE4 : Hid (g2 ≠ g4) := by show _ ≠ _; omega
  clear hW1 hg2 hg3 hg4 hbb2 hbb3 hbb4 hff1
  obtain ⟨a0, a1, a2, a3, a4, _, _, _, _, _⟩ := five_cells (HB2.out _ (Fr.refl _ _))
  obtain ⟨b0, b1, b2, b3, b4, _, _, _, _, _⟩ := five_cells (HB3.out _ (Fr.refl _ _))
  cases x with
  | false =>
    clear hno
    go_upto_region 2 with (first
      | (go_at_call 43; refine (HRI.out _ HF1.out).mono ?_; rintro e w2 ⟨rfl, hF2⟩
         have HF2 := Lib.hid hF2
         clear a0 a1 a2 a3 a4 b0 b1 b2 b3 b4
         obtain ⟨a0, a1, a2, a3, a4, _, _, _, _, _⟩ := five_cells (HB2.out _ HF2.out)
         obtain ⟨b0, b1, b2, b3, b4, _, _, _, _, _⟩ := five_cells (HB3.out _ HF2.out)
         clear hF2 HRI))
    obtain ⟨y0, y1, y2, y3, y4, z0, z1, z2, z3, z4⟩ := five_cells (HB4.out _ HF2.out)
    go_wp2
    have hp := put5_heap (HB4.out _ HF2.out) (.slice A0 nk c0) (.slice A1 nw c1) (.slice Ad nd cd) (.int .i64 dp) (.int .i64 sl)
    have hfr := put5_fr (b := g4) (HF1.out.trans HF2.out (by simp)) (.inr HG4.out) (.slice A0 nk c0) (.slice A1 nw c1) (.slice Ad nd cd) (.int .i64 dp) (.int .i64 sl)
    have hv := H0.out _ hfr
    have hv1 := H1.out _ hfr
    unfold put5 at hp hfr hv hv1
    refine bodyPost_ret (results_ctt rfl _ _ g4 32 _ (0, 0) _ rfl hp Tryz.underlying32 rfl (by kernel_rfl)) rfl ?_
    exact hR.out _ _ ⟨_, _, _, _, none, 0, rfl, hv, hv1, SlI.nil _, hfr⟩
  | true =>
    by_cases hlt : sl < f0
    · have hb1 : decide (sl < f0) = true := decide_eq_true hlt
      clear hno
      go_upto_region 2 with (first
        | (go_at_call 43; refine (HRI.out _ HF1.out).mono ?_; rintro e w2 ⟨rfl, hF2⟩
           have HF2 := Lib.hid hF2
           clear a0 a1 a2 a3 a4 b0 b1 b2 b3 b4
           obtain ⟨a0, a1, a2, a3, a4, _, _, _, _, _⟩ := five_cells (HB2.out _ HF2.out)
           obtain ⟨b0, b1, b2, b3, b4, _, _, _, _, _⟩ := five_cells (HB3.out _ HF2.out)
           clear hF2 HRI))
      obtain ⟨y0, y1, y2, y3, y4, z0, z1, z2, z3, z4⟩ := five_cells (HB4.out _ HF2.out)
      go_wp2
      have hp := put5_heap (HB4.out _ HF2.out) (.slice A0 nk c0) (.slice A1 nw c1) (.slice Ad nd cd) (.int .i64 dp) (.int .i64 sl)
      have hfr := put5_fr (b := g4) (HF1.out.trans HF2.out (by simp)) (.inr HG4.out) (.slice A0 nk c0) (.slice A1 nw c1) (.slice Ad nd cd) (.int .i64 dp) (.int .i64 sl)
      have hv := H0.out _ hfr
      have hv1 := H1.out _ hfr
      unfold put5 at hp hfr hv hv1
      refine bodyPost_ret (results_ctt rfl _ _ g4 32 _ (0, 0) _ rfl hp Tryz.underlying32 rfl (by kernel_rfl)) rfl ?_
      exact hR.out _ _ ⟨_, _, _, _, none, 0, rfl, hv, hv1, SlI.nil _, hfr⟩
    · have hb1 : decide (sl < f0) = false := decide_eq_false hlt
      obtain rfl : y = false := by
        cases y with
        | false => rfl
        | true => exact absurd ⟨rfl, by omega, rfl⟩ hno
      clear hno
      go_upto_region 2 with (first
        | (go_at_call 43; refine (HRI.out _ HF1.out).mono ?_; rintro e w2 ⟨rfl, hF2⟩
           have HF2 := Lib.hid hF2
           clear a0 a1 a2 a3 a4 b0 b1 b2 b3 b4
           obtain ⟨a0, a1, a2, a3, a4, _, _, _, _, _⟩ := five_cells (HB2.out _ HF2.out)
           obtain ⟨b0, b1, b2, b3, b4, _, _, _, _, _⟩ := five_cells (HB3.out _ HF2.out)
           clear hF2 HRI)
        | (go_at_call 42; refine (HWI.out _ (HF1.out.trans HF2.out (by simp))).mono ?_; rintro e w3 ⟨rfl, hF3⟩
           have HF3 := Lib.hid (HF2.out.trans hF3 (by simp))
           clear a0 a1 a2 a3 a4 b0 b1 b2 b3 b4
           obtain ⟨a0, a1, a2, a3, a4, _, _, _, _, _⟩ := five_cells (HB2.out _ HF3.out)
           obtain ⟨b0, b1, b2, b3, b4, _, _, _, _, _⟩ := five_cells (HB3.out _ HF3.out)
           clear hF3 HWI))
      obtain ⟨y0, y1, y2, y3, y4, z0, z1, z2, z3, z4⟩ := five_cells (HB4.out _ HF3.out)
      go_wp2
      have hp := put5_heap (HB4.out _ HF3.out) (.slice A0 nk c0) (.slice A1 nw c1) (.slice Ad nd cd) (.int .i64 dp) (.int .i64 sl)
      have hfr := put5_fr (b := g4) (HF1.out.trans HF3.out (by simp)) (.inr HG4.out) (.slice A0 nk c0) (.slice A1 nw c1) (.slice Ad nd cd) (.int .i64 dp) (.int .i64 sl)
      have hv := H0.out _ hfr
      have hv1 := H1.out _ hfr
      unfold put5 at hp hfr hv hv1
      refine bodyPost_ret (results_ctt rfl _ _ g4 32 _ (0, 0) _ rfl hp Tryz.underlying32 rfl (by kernel_rfl)) rfl ?_
      exact hR.out _ _ ⟨_, _, _, _, none, 0, rfl, hv, hv1, SlI.nil _, hfr⟩
end Go.Np.Tryz
end
section
set_option linter.unusedVariables false
set_option linter.unusedSimpArgs false
namespace Go.Np.Tryz
open Go.RowKit Go.Proofs Go.Proofs.YtlllhpnpgcphcaaGreat.PX Go.Proofs.YtlllhpnpgcphcaaGreatW.PrintWords
theorem five_two {w : World} {b : Nat} {x0 x1 x2 x3 x4 : Value} {t : TypeId} (h : w.heap[b]? = some (.cells #[x0, x1, x2, x3, x4] t (0, 0))) (u0 u1 : Value) :
    ((w.setCell ⟨b, 0, none⟩ u0).setCell ⟨b, 1, none⟩ u1).heap[b]? = some (.cells #[u0, u1, x2, x3, x4] t (0, 0)) := by
  have h1 := obj_set (obj_set h 0 u0) 1 u1
  simpa using h1
set_option maxHeartbeats 8000000 in
set_option maxRecDepth 100000 in
theorem rtake_yes {P : Nat → Prop} {w : World} {C : Ch} {A0 A1 Ad : Option Addr} {c0 c1 cd : Nat} (hG : C.t.Good) (hRg : C.t.Rng) (hD : OkDr C.dr) (h0 : VB w P (.slice A0 C.t.ks.length c0) C.t.ks) (h1 : VB w P (.slice A1 C.t.wait.length c1) C.t.wait) (hd : (Kd.int .i64).C w Ad C.dr.length C.dr) (q : BV) (hc : q.b.f4.length ≤ q.c) (hF : Kd.F k67 w P q.A q.b.f4.length q.b.f4) (hr : rng q.b) (hyes : rightB q.b = true ∧ q.b.f0 ≤ C.slot ∧ winsB C.dr q.b.f0 q.b.f1 = true) :
    Calls Tryz.prog 16 #[.agg #[.slice A0 C.t.ks.length c0, .slice A1 C.t.wait.length c1, .slice Ad C.dr.length cd, .int .i64 C.deep, .int .i64 C.slot], .agg #[.int .i64 q.b.f0, .int .i64 q.b.f1, .int .i64 q.b.f2, .int .i64 q.b.f3, .slice q.A q.b.f4.length q.c]] w fun e w' => RTakeRes P w C Ad cd q.b e w' := by
  refine calls_k fun R hR => ?_
  unfold RTakeRes at hR
  have htk : C.take q.b = (⟨(C.t.add q.b).1, C.dr, C.deep, C.slot⟩, (C.t.add q.b).2.1, if (C.t.add q.b).2.2 = true then 0 else 111) := by unfold Ch.take; rw [if_pos hyes]
  rw [htk] at hR
  have HRI : Hid (∀ W, Fr [] w W → Calls Tryz.prog 43 #[.agg #[.int .i64 q.b.f0, .int .i64 q.b.f1, .int .i64 q.b.f2, .int .i64 q.b.f3, .slice q.A q.b.f4.length q.c]] W fun e w' => e = .returned (.bool true) ∧ Fr [] W w') := fun W hW => by
    have h := rright_calls q.b q.A q.c (Kd.C_below (Kd.F_now hF) hW.below) hc hr
    rw [hyes.1] at h; exact h
  have HWI : Hid (∀ W, Fr [] w W → Calls Tryz.prog 42 #[.slice Ad C.dr.length cd, .int .i64 q.b.f0, .int .i64 q.b.f1] W fun e w' => e = .returned (.bool true) ∧ Fr [] W w') := fun W hW => by
    have h := rwins_calls (c := cd) (Kd.C_below hd hW.below) hD q.b.f0 q.b.f1
    rw [hyes.2.2] at h; exact h
  have HAD : Hid (∀ W, Fr [] w W → Calls Tryz.prog 47 #[.agg #[.slice A0 C.t.ks.length c0, .slice A1 C.t.wait.length c1], .agg #[.int .i64 q.b.f0, .int .i64 q.b.f1, .int .i64 q.b.f2, .int .i64 q.b.f3, .slice q.A q.b.f4.length q.c]] W fun e w' =>
      ∃ B0 d0 B1 d1 D d, e = .returned (.tuple #[.agg #[.slice B0 (C.t.add q.b).1.ks.length d0, .slice B1 (C.t.add q.b).1.wait.length d1], .slice D (C.t.add q.b).2.1.length d, .bool (C.t.add q.b).2.2]) ∧
        VB w' (fun k => (P k ∧ k < w.heap.size) ∨ W.heap.size ≤ k) (.slice B0 (C.t.add q.b).1.ks.length d0) (C.t.add q.b).1.ks ∧ VB w' (fun k => (P k ∧ k < w.heap.size) ∨ W.heap.size ≤ k) (.slice B1 (C.t.add q.b).1.wait.length d1) (C.t.add q.b).1.wait ∧ OwnI W.heap.size w' (.slice D (C.t.add q.b).2.1.length d) (C.t.add q.b).2.1 ∧ Fr [] W w') := fun W hW => by
    have h := radd_calls' (c0 := c0) (c1 := c1) hG hRg (h0.bound.fr hW) (h1.bound.fr hW) q hc (Kd.F_below (Kd.F_bound hF) hW.below) hr
    refine h.mono ?_
    rintro e w' ⟨B0, d0, B1, d1, D, d, rfl, g0, g1, g2, g3⟩
    exact ⟨B0, d0, B1, d1, D, d, rfl, g0, g1, g2, g3⟩
  have H0 : Hid (∀ W, Fr [] w W → VB W (fun k => P k ∨ w.heap.size ≤ k) (.slice A0 C.t.ks.length c0) C.t.ks) := fun W hW => (h0.fr hW).weak (fun k hk => .inl hk)
  have H1 : Hid (∀ W, Fr [] w W → VB W (fun k => P k ∨ w.heap.size ≤ k) (.slice A1 C.t.wait.length c1) C.t.wait) := fun W hW => (h1.fr hW).weak (fun k hk => .inl hk)
  have hadd : (C.t.add q.b).2.2 = false → C.t.add q.b = (C.t, [], false) := Tr.add_no
  obtain ⟨T, hT⟩ : ∃ T, (C.t.add q.b).1 = T := ⟨_, rfl⟩
  obtain ⟨L, hL⟩ : ∃ L, (C.t.add q.b).2.1 = L := ⟨_, rfl⟩
  obtain ⟨ok, hok⟩ : ∃ ok, (C.t.add q.b).2.2 = ok := ⟨_, rfl⟩
  have hno : ok = false → T = C.t ∧ L = [] := fun h => by
    rw [h] at hok
    have := hadd hok
    rw [this] at hT hL
    exact ⟨hT.symm, hL.symm⟩
  rw [hT, hL, hok] at hR HAD
  have hlt0 : q.b.f0 ≤ C.slot := hyes.2.1
  obtain ⟨b, A, c⟩ := q
  obtain ⟨f0, f1, f2, f3, f4⟩ := b
  dsimp only at *
  obtain ⟨nk, hnk⟩ : ∃ nk, C.t.ks.length = nk := ⟨_, rfl⟩
  obtain ⟨nw, hnw⟩ : ∃ nw, C.t.wait.length = nw := ⟨_, rfl⟩
  obtain ⟨nd, hnd⟩ : ∃ nd, C.dr.length = nd := ⟨_, rfl⟩
  obtain ⟨n4, hn4⟩ : ∃ n4, f4.length = n4 := ⟨_, rfl⟩
  obtain ⟨mk, hmk⟩ : ∃ mk, T.ks.length = mk := ⟨_, rfl⟩
  obtain ⟨mw, hmw⟩ : ∃ mw, T.wait.length = mw := ⟨_, rfl⟩
  obtain ⟨nl, hnl⟩ : ∃ nl, L.length = nl := ⟨_, rfl⟩
  rw [hnd, hmk, hmw, hnl] at hR
  rw [hnk] at H0
  rw [hnw] at H1
  rw [hnd] at HWI
  rw [hn4] at HRI
  rw [hnk, hnw, hn4, hmk, hmw, hnl] at HAD
  rw [hnk, hnw, hnd, hn4]
  obtain ⟨dp, hdp⟩ : ∃ dp, C.deep = dp := ⟨_, rfl⟩
  obtain ⟨sl, hsl⟩ : ∃ sl, C.slot = sl := ⟨_, rfl⟩
  rw [hdp, hsl] at hR
  rw [hsl] at hlt0
  rw [hdp, hsl]
  have HNO : Hid (ok = false → T = C.t ∧ mk = nk ∧ mw = nw ∧ L = [] ∧ nl = 0) := fun h => by
    obtain ⟨h1, h2⟩ := hno h
    exact ⟨h1, by rw [← hmk, h1, hnk], by rw [← hmw, h1, hnw], h2, by rw [← hnl, h2]; rfl⟩
  have hb1 : decide (sl < f0) = false := decide_eq_false (by omega)
  obtain ⟨W1, hW1⟩ : ∃ W1, W1 = ((w.alloc (.cells #[.slice A0 nk c0, .slice A1 nw c1, .slice Ad nd cd, .int .i64 dp, .int .i64 sl] 32)).alloc (.cells #[.int .i64 f0, .int .i64 f1, .int .i64 f2, .int .i64 f3, .slice A n4 c] 35)).alloc (.cells #[.slice none 0 0, .slice none 0 0, .slice none 0 0, .int .i64 0, .int .i64 0] 32) := ⟨_, rfl⟩
  clear hG hRg hD h0 h1 hd hc hF hr hyes htk hadd hno hT hL hok hnk hnw hnd hn4 hdp hsl hmk hmw hnl hlt0
  go_enter Tryz.func16, Tryz.ntmps16
  go_upto_region 1 with (fail)
  obtain ⟨g2, hg2⟩ : ∃ g, g = w.heap.size := ⟨_, rfl⟩
  obtain ⟨g3, hg3⟩ : ∃ g, g = w.heap.size + 1 := ⟨_, rfl⟩
  obtain ⟨g4, hg4⟩ : ∃ g, g = w.heap.size + 1 + 1 := ⟨_, rfl⟩
  obtain ⟨hbb2, hbb3, hbb4, hff1⟩ := take_boxes w (.slice A0 nk c0) (.slice A1 nw c1) (.slice Ad nd cd) (.int .i64 dp) (.int .i64 sl) (.int .i64 f0) (.int .i64 f1) (.int .i64 f2) (.int .i64 f3) (.slice A n4 c)
  rw [← hW1] at hbb2 hbb3 hbb4 hff1
  rw [← hg2] at hbb2
  rw [← hg3] at hbb3
  rw [← hg4] at hbb4
  have HF1 := Lib.hid hff1
  have HG4 : Hid (w.heap.size ≤ g4) := by show _ ≤ _; omega
  have HB2 : Hid (∀ W, Fr [] W1 W → W.heap[g2]? = some (.cells #[.slice A0 nk c0, .slice A1 nw c1, .slice Ad nd cd, .int .i64 dp, .int .i64 sl] 32 (0, 0))) := fun W hW => (hW.block g2 (Array.getElem?_eq_some_iff.1 hbb2).1 (by simp)).trans hbb2
  have HB3 : Hid (∀ W, Fr [] W1 W → W.heap[g3]? = some (.cells #[.int .i64 f0, .int .i64 f1, .int .i64 f2, .int .i64 f3, .slice A n4 c] 35 (0, 0))) := fun W hW => (hW.block g3 (Array.getElem?_eq_some_iff.1 hbb3).1 (by simp)).trans hbb3
  have HB4 : Hid (∀ W, Fr [] W1 W → W.heap[g4]? = some (.cells #[.slice none 0 0, .slice none 0 0, .slice none 0 0, .int .i64 0, .int .i64 0] 32 (0, 0))) := fun W hW => (hW.block g4 (Array.getElem?_eq_some_iff.1 hbb4).1 (by simp)).trans hbb4
  rw [← hW1, ← hg4, ← hg3, ← hg2]
  have HE2 : Hid (w.heap.size ≤ g2 ∧ g2 < W1.heap.size) := ⟨by omega, (Array.getElem?_eq_some_iff.1 hbb2).1⟩
  have HE4 : Hid (w.heap.size ≤ g4 ∧ g4 < W1.heap.size) := ⟨by omega, (Array.getElem?_eq_some_iff.1 hbb4).1⟩
  have HNE4 : Hid (g2 ≠ g4) := by show _ ≠ _; omega
  clear hW1 hg2 hg3 hg4 hbb2 hbb3 hbb4 hff1
  obtain ⟨a0, a1, a2, a3, a4, _, _, _, _, _⟩ := five_cells (HB2.out _ (Fr.refl _ _))
  obtain ⟨b0, b1, b2, b3, b4, _, _, _, _, _⟩ := five_cells (HB3.out _ (Fr.refl _ _))
  go_upto_region 3 with (first
    | (go_at_call 43; refine (HRI.out _ HF1.out).mono ?_; rintro e w2 ⟨rfl, hF2⟩
       have HF2 := Lib.hid hF2
       clear a0 a1 a2 a3 a4 b0 b1 b2 b3 b4
       obtain ⟨a0, a1, a2, a3, a4, _, _, _, _, _⟩ := five_cells (HB2.out _ HF2.out)
       obtain ⟨b0, b1, b2, b3, b4, _, _, _, _, _⟩ := five_cells (HB3.out _ HF2.out)
       clear hF2 HRI)
    | (go_at_call 42; refine (HWI.out _ (HF1.out.trans HF2.out (by simp))).mono ?_; rintro e w3 ⟨rfl, hF3⟩
       have HF3 := Lib.hid (HF2.out.trans hF3 (by simp))
       clear a0 a1 a2 a3 a4 b0 b1 b2 b3 b4
       obtain ⟨a0, a1, a2, a3, a4, _, _, _, _, _⟩ := five_cells (HB2.out _ HF3.out)
       obtain ⟨b0, b1, b2, b3, b4, _, _, _, _, _⟩ := five_cells (HB3.out _ HF3.out)
       clear hF3 HWI))
  go_upto_region 4 with (first
    | (go_at_call 47; refine (HAD.out _ (HF1.out.trans HF3.out (by simp))).mono ?_; rintro e w4 ⟨B0, d0, B1, d1, D, d, rfl, g0, g1, gs, hF4⟩
       have hs3 := HF3.out.size
       have HFZ : Hid (∀ Wx, Fr [g2, g4] w4 Wx → VB Wx (fun k => P k ∨ w.heap.size ≤ k) (.slice B0 mk d0) T.ks ∧ VB Wx (fun k => P k ∨ w.heap.size ≤ k) (.slice B1 mw d1) T.wait ∧ SlI Wx (.slice D nl d) L) := by
         intro Wx hx
         have hk : ∀ k, (P k ∧ k < w.heap.size) ∨ w3.heap.size ≤ k → k < w4.heap.size → Wx.heap[k]? = w4.heap[k]? := fun k hk hl => hx.block k hl (by
           intro hm
           have e2 := HE2.out
           have e4 := HE4.out
           simp at hm
           rcases hk with hk | hk <;> rcases hm with rfl | rfl <;> omega)
         have hw : ∀ k, (P k ∧ k < w.heap.size) ∨ w3.heap.size ≤ k → P k ∨ w.heap.size ≤ k := fun k hk => by
           have e5 := HF1.out.size
           rcases hk with hk | hk
           · exact .inl hk.1
           · exact .inr (by omega)
         have hgs : SlI Wx (.slice D nl d) L := (gs.fr hx (fun k hk hm => by
           have e2 := HE2.out
           have e4 := HE4.out
           have e3 := gs.2 k hk
           simp at hm
           rcases hm with rfl | rfl <;> omega)).sl
         exact ⟨VB.weak (Kd.V_step g0 hk) hw, VB.weak (Kd.V_step g1 hk) hw, hgs⟩
       have HF4 := Lib.hid (HF3.out.trans hF4 (by simp))
       clear a0 a1 a2 a3 a4 b0 b1 b2 b3 b4
       clear hF4 HAD g0 g1 gs hs3))
  obtain ⟨W5, hW5⟩ : ∃ W5, W5 = w4.alloc (.cells #[.slice B0 mk d0, .slice B1 mw d1] 30) := ⟨_, rfl⟩
  obtain ⟨g7, hg7⟩ : ∃ g, g = w4.heap.size := ⟨_, rfl⟩
  have hF5 : Fr [] w4 W5 := by rw [hW5]; exact (Fr.refl _ _).alloc _
  have HF45 := Lib.hid hF5
  have HF5 := Lib.hid (HF4.out.trans hF5 (by simp))
  have hb7 := heap_alloc_new w4 (.cells #[.slice B0 mk d0, .slice B1 mw d1] 30)
  rw [← hW5, ← hg7] at hb7
  rw [← hW5, ← hg7]
  have HB7 : Hid (TreeIn W5 g7 (.slice B0 mk d0) (.slice B1 mw d1)) := hb7
  clear hW5 hg7 hF5 hb7
  cases ok with
  | false =>
    obtain ⟨rfl, rfl, rfl, rfl, rfl⟩ := HNO.out rfl
    obtain ⟨a0, a1, a2, a3, a4, _, _, _, _, _⟩ := five_cells (HB2.out _ HF5.out)
    obtain ⟨y0, y1, y2, y3, y4, z0, z1, z2, z3, z4⟩ := five_cells (HB4.out _ HF5.out)
    go_wp2
    have hp := put5_heap (HB4.out _ HF5.out) (.slice A0 mk c0) (.slice A1 mw c1) (.slice Ad nd cd) (.int .i64 dp) (.int .i64 sl)
    have hfr := put5_fr (b := g4) (HF1.out.trans HF5.out (by simp)) (.inr HG4.out) (.slice A0 mk c0) (.slice A1 mw c1) (.slice Ad nd cd) (.int .i64 dp) (.int .i64 sl)
    have hv := H0.out _ hfr
    have hv1 := H1.out _ hfr
    unfold put5 at hp hfr hv hv1
    refine bodyPost_ret (results_ctt rfl _ _ g4 32 _ (0, 0) _ rfl hp Tryz.underlying32 rfl (by kernel_rfl)) rfl ?_
    exact hR.out _ _ ⟨_, _, _, _, none, 0, rfl, hv, hv1, SlI.nil _, hfr⟩
  | true =>
    obtain ⟨t0, t1, _, _⟩ := HB7.out.cells
    obtain ⟨a0, a1, a2, a3, a4, f0, f1, f2, f3, f4⟩ := five_cells (HB2.out _ HF5.out)
    go_upto_region 7 with (fail)
    obtain ⟨W6, hW6⟩ : ∃ W6, W6 = (W5.setCell ⟨g2, 0, none⟩ (.slice B0 mk d0)).setCell ⟨g2, 1, none⟩ (.slice B1 mw d1) := ⟨_, rfl⟩
    rw [← hW6]
    have hb6 := five_two (HB2.out _ HF5.out) (.slice B0 mk d0) (.slice B1 mw d1)
    rw [← hW6] at hb6
    have hF6 : Fr [g2] W5 W6 := by rw [hW6]; exact ((Fr.refl _ _).setCell (.inl (by simp)) _).setCell (.inl (by simp)) _
    have hb4 : W6.heap[g4]? = some (.cells #[.slice none 0 0, .slice none 0 0, .slice none 0 0, .int .i64 0, .int .i64 0] 32 (0, 0)) := (hF6.block g4 (Array.getElem?_eq_some_iff.1 (HB4.out _ HF5.out)).1 (by simp; exact fun e => HNE4.out e.symm)).trans (HB4.out _ HF5.out)
    have HB46 := Lib.hid hb4
    have HF6 := Lib.hid hF6
    have HB26 := Lib.hid hb6
    clear hW6 hb6 hF6 hb4 a0 a1 a2 a3 a4 f0 f1 f2 f3 f4 t0 t1
    obtain ⟨a0, a1, a2, a3, a4, _, _, _, _, _⟩ := five_cells HB26.out
    obtain ⟨y0, y1, y2, y3, y4, z0, z1, z2, z3, z4⟩ := five_cells HB46.out
    go_wp2
    have hp := put5_heap HB46.out (.slice B0 mk d0) (.slice B1 mw d1) (.slice Ad nd cd) (.int .i64 dp) (.int .i64 sl)
    have hfr6 : Fr [] w W6 := (HF1.out.trans HF5.out (by simp)).trans HF6.out (fun k hk => .inr (by simp at hk; subst hk; exact HE2.out.1))
    have hfr := put5_fr (b := g4) hfr6 (.inr HG4.out) (.slice B0 mk d0) (.slice B1 mw d1) (.slice Ad nd cd) (.int .i64 dp) (.int .i64 sl)
    have h46 : Fr [g2, g4] w4 W6 := (HF45.out.mono (by simp)).trans HF6.out (fun k hk => .inl (by simp at hk; simp [hk]))
    have hfr4 := put5_fr (b := g4) h46 (.inl (by simp)) (.slice B0 mk d0) (.slice B1 mw d1) (.slice Ad nd cd) (.int .i64 dp) (.int .i64 sl)
    obtain ⟨hv, hv1, hsl⟩ := HFZ.out _ hfr4
    unfold put5 at hp hfr hv hv1 hsl
    refine bodyPost_ret (results_ctt rfl _ _ g4 32 _ (0, 0) _ rfl hp Tryz.underlying32 rfl (by kernel_rfl)) rfl ?_
    exact hR.out _ _ ⟨_, _, _, _, D, d, rfl, hv, hv1, hsl, hfr⟩
theorem rtake_calls {P : Nat → Prop} {w : World} {C : Ch} {A0 A1 Ad : Option Addr} {c0 c1 cd : Nat} (hG : C.t.Good) (hRg : C.t.Rng) (hD : OkDr C.dr) (h0 : VB w P (.slice A0 C.t.ks.length c0) C.t.ks) (h1 : VB w P (.slice A1 C.t.wait.length c1) C.t.wait) (hd : (Kd.int .i64).C w Ad C.dr.length C.dr) (q : BV) (hc : q.b.f4.length ≤ q.c) (hF : Kd.F k67 w P q.A q.b.f4.length q.b.f4) (hr : rng q.b) :
    Calls Tryz.prog 16 #[.agg #[.slice A0 C.t.ks.length c0, .slice A1 C.t.wait.length c1, .slice Ad C.dr.length cd, .int .i64 C.deep, .int .i64 C.slot], .agg #[.int .i64 q.b.f0, .int .i64 q.b.f1, .int .i64 q.b.f2, .int .i64 q.b.f3, .slice q.A q.b.f4.length q.c]] w fun e w' => RTakeRes P w C Ad cd q.b e w' := by
  by_cases h : rightB q.b = true ∧ q.b.f0 ≤ C.slot ∧ winsB C.dr q.b.f0 q.b.f1 = true
  · exact rtake_yes hG hRg hD h0 h1 hd q hc hF hr h
  · exact rtake_no hD h0 h1 hd q hc hF hr h
end Go.Np.Tryz
end
