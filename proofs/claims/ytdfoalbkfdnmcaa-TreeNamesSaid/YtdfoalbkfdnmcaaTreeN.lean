/- tree.Tree: New, Names, Path, Get, Back. -/
import Derived.Test.YtdfoalbkfdnmcaaTreeK
set_option linter.unusedVariables false
set_option linter.unusedSimpArgs false
namespace Go.Np.Try
open Go.RowKit Go.Proofs Go.Shelf Go.Sort Go.Lib Go.Proofs.Ytdfoalbkfdnmcaa.PX Go.Proofs.YtdfoalbkfdnmcaaW.PrintWords
theorem OwnI.of_base {base : Nat} {w : World} {v : Value} {l : List Int} {n : Nat} (h : w.ownsRow base 3 1 v n (l.map (Value.int .i64))) : OwnI base w v l := by
  have hn : n = l.length := by have := h.1; simp at this; omega
  subst hn
  refine ⟨⟨h.1, ?_⟩, fun k hk => Go.Proofs.YtdfoalbkfdnmcaaW.PrintWords.own_base h k (by simpa using hk)⟩
  rcases h.2 with h2 | ⟨g, cap, cur, h3, _, h4⟩
  · exact .inl h2
  · exact .inr ⟨g, cap, cur, h3, Nat.zero_le _, h4⟩
theorem OwnI.base {base : Nat} {w : World} {v : Value} {l : List Int} (h : OwnI base w v l) : w.ownsRow base 3 1 v l.length (l.map (Value.int .i64)) := by
  refine ⟨h.1.1, ?_⟩
  rcases h.1.2 with h2 | ⟨g, cap, cur, rfl, _, h4⟩
  · exact .inl h2
  · exact .inr ⟨g, cap, cur, rfl, h.2 g (by simp [Value.ownBlock]), h4⟩
theorem grown_own {w w' : World} {v : Value} (h : w.grownBy w' v.ownBlock) : Fr v.ownBlock.toList w w' := Fr.grown _ h (fun k hk => .inl (by simp [hk]))
theorem sort_I {base : Nat} {w : World} {v : Value} {l : List Int} (h : OwnI base w v l) (hl : l.length < 4611686018427387904) :
    Calls Try.prog 53 #[v] w fun e w' => e = .returned (.tuple #[]) ∧ OwnI base w' v (l.mergeSort fun x y => decide (x ≤ y)) ∧ Fr v.ownBlock.toList w w' := by
  refine (sort_own h.base hl).mono ?_
  rintro e w' ⟨rfl, h1, h2⟩
  exact ⟨rfl, .of_base h1, grown_own h2⟩
theorem compact_I {base : Nat} {w : World} {v : Value} {l : List Int} (h : OwnI base w v l) (hl : l.length ≤ 9223372036854775807) :
    Calls Try.prog 54 #[v] w fun e w' => ∃ u, e = .returned u ∧ OwnI base w' u (compact l) ∧ Fr v.ownBlock.toList w w' := by
  refine (compact_own h.base hl).mono ?_
  rintro e w' ⟨A, c, rfl, h1, _, h2⟩
  exact ⟨_, rfl, .of_base h1, grown_own h2⟩
theorem reverse_I {base : Nat} {w : World} {v : Value} {l : List Int} (h : OwnI base w v l) (hl : l.length ≤ 9223372036854775807) :
    Calls Try.prog 45 #[v] w fun e w' => e = .returned (.tuple #[]) ∧ OwnI base w' v l.reverse ∧ Fr v.ownBlock.toList w w' := by
  by_cases hv : v = .slice none 0 0
  · subst hv
    have h0 : l = [] := by
      rcases h.1.2 with ⟨_, h1⟩ | ⟨g, cap, cur, e, _⟩
      · exact List.eq_nil_of_length_eq_zero h1
      · cases e
    subst h0
    refine (Try.slices_Reverse_int_empty none 0 w).mono ?_
    rintro e w' ⟨rfl, rfl⟩
    exact ⟨rfl, h, Fr.refl _ _⟩
  · have hb := h.base
    obtain ⟨g, cap, rfl, h1, h2, h3, h4, _, hH⟩ := holds_of_ownsRow hb hv
    refine (Try.slices_Reverse_int g 0 cap l w hH hl).mono ?_
    rintro e w' ⟨rfl, q, rfl⟩
    have hc := ownsRow_putRow (q := q) (k := l.length) (ys := l.reverse) hb (by simp) (Nat.le_refl _)
    rw [List.take_of_length_le (by simp)] at hc
    exact ⟨rfl, .of_base (l := l.reverse) (by simpa using hc), grown_own (grownBy_putRow _)⟩
/-! ### New -/
set_option maxHeartbeats 1000000 in
set_option maxRecDepth 100000 in
theorem new_calls {w : World} : Calls Try.prog 11 #[] w fun e w' => ∃ p, e = .returned (.pointer (some ⟨p, 0, none⟩)) ∧ TrAt (fun k => k < w.heap.size) w' p ⟨[], []⟩ ∧ Fr [] w w' ∧ w.heap.size ≤ p := by
  have hmm := @run_makeMap Try.prog
  refine calls_k fun R hR => ?_
  go_enter Try.func11, Try.ntmps11
  go_wp2
  have hM : MapIs (fun a : Int => Value.int .i64 a) (w.alloc (.map #[] 0)) w.heap.size ([] : List (Int × Value)) := MapIs.made w
  have hF : Fr [] w ((w.alloc (.map #[] 0)).alloc (.cells #[.map (some w.heap.size), .slice none 0 0] 67)) := ((Fr.refl _ _).alloc _).alloc _
  refine hR.out _ _ ⟨w.heap.size + 1, by simp, ⟨w.heap.size, .slice none 0 0, [], [], ?_⟩, hF, Nat.le_succ _⟩
  refine ⟨?_, hM.alloc _, rfl, by simp, ⟨rfl, .inl ⟨rfl, rfl⟩⟩, rfl, by simp, ⟨by omega, by omega, by simp [Value.ownBlock]⟩⟩
  have := heap_alloc_new (w.alloc (.map #[] 0)) (.cells #[.map (some w.heap.size), .slice none 0 0] 67)
  simpa using this
/-! ### Names -/
def Tr.names (t : Tr) : List Int := uniq (t.known.map (·.name))
theorem mOf_keys {ds : List (BV × Kn)} {t : Tr} (h : ds.map (·.2) = t.known) : (mOf ds).map (·.1) = t.known.map (·.name) := by rw [← h]; simp [mOf]
set_option maxHeartbeats 1000000 in
set_option maxRecDepth 100000 in
theorem names_calls {X : Nat → Prop} {w : World} {p : Nat} {t : Tr} (h : TrAt X w p t) (hk : t.known.length ≤ 100000) :
    Calls Try.prog 12 #[.pointer (some ⟨p, 0, none⟩)] w fun e w' => ∃ v, e = .returned v ∧ OwnI w.heap.size w' v t.names ∧ Fr [] w w' := by
  obtain ⟨b, v, ds, qs, h⟩ := h
  have hc := cell_of h.hp 0
  simp at hc
  have HK := Lib.hid ((callsIn_wide (n := 6)).1 (ks_keys_in Fence.wide 6 trivial rfl b w))
  obtain ⟨W3, hW3⟩ : ∃ W3, W3 = w.alloc (.cells #[.map (some b)] 63) := ⟨_, rfl⟩
  have hM3 : MapIs keyE W3 b (mOf ds) := by rw [hW3]; exact h.hM.alloc _
  have hF3 : Fr [] w W3 := by rw [hW3]; exact (Fr.refl _ _).alloc _
  have hc3 : W3.cell? ⟨w.heap.size, 0, none⟩ = some (.map (some b)) := by
    rw [hW3]
    simp
  have hlt : w.heap.size < W3.heap.size := by rw [hW3]; simp
  have HS := Lib.hid (ks_sorted w.heap.size b (mOf ds) (by rw [h.ds_len]; omega) hlt hc3 hM3)
  rw [mOf_keys h.hds] at HS
  rw [← hW3] at HK
  have HF3 := Lib.hid hF3
  refine calls_k fun R hR => ?_
  clear h hM3 hF3 hc3 hlt hW3
  go_enter Try.func12, Try.ntmps12
  go_wp2_with (first
    | (go_at_call 40; refine HK.out.mono ?_; rintro e w1 ⟨rfl, rfl⟩)
    | (go_at_call 39; refine HS.out.mono ?_; rintro e w2 ⟨v2, rfl, h1, h2⟩))
  have hO := OwnI.of_base h1
  refine hR.out _ _ ⟨_, rfl, ⟨hO.1, fun k hk => ?_⟩, HF3.out.trans (Fr.of_below [] h2) (by simp)⟩
  have := hO.2 k hk
  have := HF3.out.size
  omega
/-! ### Path -/
theorem Tr.Ok.path_has {t : Tr} (h : t.Ok) {n : Int} {e : Kn} (he : t.find n = some e) : t.path n = t.path e.blk.f3 ++ [n] := by
  obtain ⟨h1, h2⟩ := Tr.find_some he
  have := (h.known e h1).2.2.2
  rw [h2] at this
  rw [← this]
  unfold Tr.path; rw [he]
theorem field_known (a0 a1 a2 a3 a4 a5 : Value) (w : World) : (Instr.field 73 (.agg #[a0, a1, a2, a3, a4, a5]) 0).run Try.prog w = .ok (.agg #[a0, a1, a2, a3, a4]) w := by kernel_rfl
theorem field_block (a0 a1 a2 a3 a4 : Value) (w : World) : (Instr.field 28 (.agg #[a0, a1, a2, a3, a4]) 3).run Try.prog w = .ok a3 w := by kernel_rfl
theorem Tr.path_none {t : Tr} {n : Int} (h : t.has n = false) : t.path n = [] := by
  unfold Tr.has at h
  unfold Tr.path
  cases hf : t.find n with
  | none => rfl
  | some e => rw [hf] at h; cases h
set_option maxHeartbeats 4000000 in
set_option maxRecDepth 100000 in
theorem path_calls {X : Nat → Prop} {w : World} {p : Nat} {t : Tr} (h : TrAt X w p t) (hG : t.Good) (n : Int) :
    Calls Try.prog 15 #[.pointer (some ⟨p, 0, none⟩), .int .i64 n] w fun e w' => ∃ v, e = .returned v ∧ OwnI w.heap.size w' v (t.path n) ∧ Fr [] w w' := by
  obtain ⟨b, v, ds, qs, h⟩ := h
  have hcp := cell_of h.hp 0
  simp at hcp
  have HH := Lib.hid h
  have HG := Lib.hid hG
  have HCP := Lib.hid hcp
  obtain ⟨L, hL⟩ : ∃ L, L = t.path n := ⟨_, rfl⟩
  have HL4 : Hid (L.length ≤ 400) := by have := hG.path400 n; rw [← hL] at this; exact this
  refine calls_k fun R hR => ?_
  rw [← hL] at hR
  have HL := Lib.hid hL
  clear h hG hL hcp
  go_enter Try.func15, Try.ntmps15
  go_upto_region 2 with (fail)
  go_loopg [5, 1] L.length (fun gn o x wr => ∃ (m : Nat) (D : Option Addr) (cp : Nat) (acc : List Int) (y : Int), m = gn ∧ o = .slice D acc.length cp ∧ x = .int .i64 y ∧ Hid (L = t.path y ++ acc.reverse) ∧ Hid ((t.path y).length = m) ∧ Hid (OwnI w.heap.size wr (.slice D acc.length cp) acc) ∧ Hid (Fr [] w wr))
  case atStart => exact ⟨_, none, 0, [], n, rfl, rfl, rfl, by unfold Hid; simp [HL.out], by unfold Hid; rw [HL.out], OwnI.nil _ _, Fr.refl _ _⟩
  case round =>
    obtain ⟨m, D, cp, acc, y, rfl, rfl, rfl, HE, HM, HO, HF⟩ := hrel
    have hr := HH.out.fr0 HF.out
    have HHS := Lib.hid (has_calls ⟨_, _, _, _, hr⟩ y)
    cases hf : t.find y with
    | none =>
      have hb : t.has y = false := by unfold Tr.has; rw [hf]; rfl
      rw [hb] at HHS
      have hLr : L = acc.reverse := by have := HE.out; rw [Tr.path_none hb] at this; simpa using this
      have hal : acc.length ≤ 400 := by have := HL4.out; rw [hLr] at this; simpa using this
      have HLR := Lib.hid hLr
      have hlim : acc.length ≤ 9223372036854775807 := by omega
      clear hr hb hf hLr hal
      go_wp2_with (first
        | (go_at_call 19; refine HHS.out.mono ?_; rintro e w1 ⟨rfl, hF1⟩
           have HR1 := Lib.hid (reverse_I (HO.out.fr hF1 (by simp)) hlim)
           have HF1 := Lib.hid hF1
           clear hF1 HHS)
        | (go_at_call 45; refine HR1.out.mono ?_; rintro e w2 ⟨rfl, hO2, hF2⟩))
      refine hR.out _ _ ⟨_, rfl, ?_, (HF.out.trans HF1.out (by simp)).trans hF2 (fun k hk => .inr (HO.out.2 k hk))⟩
      rw [HLR.out]; exact hO2
    | some e =>
      have hb : t.has y = true := by unfold Tr.has; rw [hf]; rfl
      rw [hb] at HHS
      have hpy := HG.out.ok.path_has hf
      obtain ⟨q, hh, hl, hs, _⟩ := hr.look y
      replace hl := fun w1 (hF1 : Fr [] wr w1) => (hr.fr0 hF1).look y
      obtain ⟨m', rfl⟩ : ∃ m', m = m' + 1 := ⟨m - 1, by have := HM.out; rw [hpy] at this; simp at this; omega⟩
      have hm' : (t.path e.blk.f3).length = m' := by have := HM.out; rw [hpy] at this; simpa using this
      have hE' : L = t.path e.blk.f3 ++ (acc ++ [y]).reverse := by have := HE.out; rw [hpy] at this; simpa using this
      have hal : acc.length ≤ 400 := by have := HL4.out; have h2 := congrArg List.length hE'; simp at h2; omega
      have hb63 : acc.length < maxLen := by unfold maxLen; omega
      have hb8 : (acc.length + 1) * 8 ≤ 140737488355328 := by omega
      have HE' := Lib.hid hE'
      have HM' := Lib.hid hm'
      have HFI := Lib.hid hf
      have HLK := Lib.hid hl
      have hcr := cellF HF.out HCP.out
      clear hr hb hf hpy hm' hE' hal hs hl HE HM
      go_upto_region 4 with (first
        | (go_at_call 19; refine HHS.out.mono ?_; rintro e1 w1 ⟨rfl, hF1⟩
           have hrow1 := (HO.out.fr hF1 (by simp)).1
           have HF1 := Lib.hid hF1
           clear hF1 HHS)
        | (at_builtin; refine wp_append1 rfl _ _ 29 3 rfl Try.underlying29 infoI rfl (by decide) hrow1 rfl [.int .i64 y] rfl rfl (by simp [Value.oneCell']) hb63 hb8 ?_; intro A5 c5 w5 hr5 hF5 hN5
           have hFw5 : Fr [] w w5 := (HF.out.trans HF1.out (by simp)).trans hF5 (fun k hk => .inr (HO.out.2 k hk))
           have HFW := Lib.hid hFw5
           have hsz1 := HF1.out.size
           have hszw := HF.out.size
           have HO5 : Hid (OwnI w.heap.size w5 (.slice A5 (acc ++ [y]).length c5) (acc ++ [y])) := by
             refine ⟨by simpa using hr5, fun k hk => ?_⟩
             rcases hN5 k (by simpa using hk) with h1 | h1
             · exact HO.out.2 k h1
             · omega
           clear hr5 hF5 hN5 hrow1 hFw5 hsz1 hszw))
      have hcr5 := cellF HFW.out HCP.out
      obtain ⟨q5, hh5, hl5, hs5, _⟩ := (HH.out.fr0 HFW.out).look y
      have hq5 := (hs5 _ HFI.out).1
      replace hl5 := hl5 false
      simp only [Bool.false_eq_true, if_false, knV] at hl5
      rw [hq5] at hl5
      clear hs5 hq5 hcr
      have hfk := field_known
      have hfb := field_block
      go_wp2
      go_roundg m'
      case rel => exact ⟨m', A5, c5, acc ++ [y], e.blk.f3, rfl, by simp, rfl, HE', HM', HO5, HFW⟩
      case measure => omega
end Go.Np.Try
