/- net.Bag[int]: the contracts. -/
import Derived.Test.YtiieflbggcgckaaProg
import Derived.Test.YtiieflbggcgckaaNpB
import Derived.Test.YtiieflbggcgckaaNpC
import Derived.Test.YtiieflbggcgckaaNpD
import Derived.Test.YtiieflbggcgckaaWWords
import Derived.Deep.LoopGhost
import Derived.Deep.QuietTactic
import Derived.BigQuiet
import Derived.Maps.AppendAt
import Derived.Deep.RegionLaw
import Derived.Lib.SliceRun
import Derived.KernelRfl
import Derived.Lib.Hide
import Derived.Deep.Cut
import Derived.Deep.DeepMust
import Derived.Deep.CutBlock
set_option linter.unusedVariables false
set_option linter.unusedSimpArgs false
namespace Go.Np.Try
open Go.RowKit Go.Proofs Go.Conc
open Go.Proofs.YtiieflbggcgckaaW.PrintWords (setCells_row setCells_same setCells_far)

def encI (x : Int) : Value := .int .i64 x
structure BagIs (w : World) (p c : Nat) (v : Value) (items buf : List Int) (s r : Nat) : Prop where
  obj : w.heap[p]? = some (.cells #[.chan (some c), v] 65 (0, 0))
  chan : w.heap[c]? = some (.chan 4000 (buf.map encI).toArray false s r false)
  row : w.ownsRow 0 3 1 v items.length (items.map encI)
def fpB (p c : Nat) (v : Value) : List Nat := p :: c :: v.ownBlock.toList
def BagAt (w : World) (p : Nat) (F : List Nat) (l : List Int) : Prop := ∃ c v items buf s r, l = items ++ buf ∧ BagIs w p c v items buf s r ∧ F = fpB p c v ∧ l.length ≤ 4000
theorem BagIs.ne {w : World} {p c : Nat} {v : Value} {items buf : List Int} {s r : Nat} (h : BagIs w p c v items buf s r) : p ≠ c ∧ p < w.heap.size ∧ c < w.heap.size ∧ (∀ k, v.ownBlock = some k → k < w.heap.size ∧ k ≠ p ∧ k ≠ c) := by
  refine ⟨fun e => ?_, (Array.getElem?_eq_some_iff.1 h.obj).1, (Array.getElem?_eq_some_iff.1 h.chan).1, fun k hk => ?_⟩
  · have := h.obj; rw [e, h.chan] at this; cases this
  · rcases h.row.2 with ⟨h1, _⟩ | ⟨g, cap, cur, h1, _, h2, _⟩
    · rw [h1] at hk; cases hk
    · rw [h1] at hk
      simp only [Value.ownBlock, Option.some.injEq] at hk
      subst hk
      refine ⟨(Array.getElem?_eq_some_iff.1 h2).1, fun e => ?_, fun e => ?_⟩
      · rw [e, h.obj] at h2; injection h2 with h2; injection h2 with _ h2; cases h2
      · rw [e, h.chan] at h2; cases h2
theorem BagIs.move {w w' : World} {p c : Nat} {v : Value} {items buf : List Int} {s r : Nat} (h : BagIs w p c v items buf s r) (hf : ∀ k, k ∈ fpB p c v → w'.heap[k]? = w.heap[k]?) : BagIs w' p c v items buf s r := by
  refine ⟨(hf p (by simp [fpB])).trans h.obj, (hf c (by simp [fpB])).trans h.chan, ?_⟩
  refine ⟨h.row.1, ?_⟩
  rcases h.row.2 with h2 | ⟨g, cap, cur, rfl, hb, hh, r⟩
  · exact .inl h2
  · exact .inr ⟨g, cap, cur, rfl, hb, (hf g (by simp [fpB, Value.ownBlock])).trans hh, r⟩
theorem BagAt.fr {w w' : World} {p : Nat} {F S : List Nat} {l : List Int} (h : BagAt w p F l) (hf : Fr S w w') (hd : ∀ k ∈ F, k ∉ S) : BagAt w' p F l := by
  obtain ⟨c, v, items, buf, s, r, h1, h2, rfl, h3⟩ := h
  refine ⟨c, v, items, buf, s, r, h1, h2.move fun k hk => hf.block k ?_ (hd k hk), rfl, h3⟩
  obtain ⟨_, n1, n2, n3⟩ := h2.ne
  simp only [fpB, List.mem_cons, Option.mem_toList] at hk
  rcases hk with rfl | rfl | hk
  · exact n1
  · exact n2
  · exact (n3 k hk).1
theorem BagAt.lt {w : World} {p : Nat} {F : List Nat} {l : List Int} (h : BagAt w p F l) : ∀ k ∈ F, k < w.heap.size := by
  obtain ⟨c, v, items, buf, s, r, h1, h2, rfl, h3⟩ := h
  obtain ⟨_, n1, n2, n3⟩ := h2.ne
  intro k hk
  simp only [fpB, List.mem_cons, Option.mem_toList] at hk
  rcases hk with rfl | rfl | hk
  · exact n1
  · exact n2
  · exact (n3 k hk).1
theorem chan_other {w : World} {c cap : Nat} {buf : Array Value} {cl : Bool} {s r : Nat} {tm : Bool} {k : Nat} (h : k ≠ c) : (w.setChan c cap buf cl s r tm).heap[k]? = w.heap[k]? := by
  simp only [World.setChan]; rw [Array.getElem?_setIfInBounds_ne (Ne.symm h)]
theorem Fr.setChan {S : List Nat} {a w : World} (h : Fr S a w) {c : Nat} (hc : c ∈ S ∨ a.heap.size ≤ c) (cap : Nat) (buf : Array Value) (cl : Bool) (s r : Nat) (tm : Bool) : Fr S a (w.setChan c cap buf cl s r tm) :=
  ⟨h.os, h.tape, h.output, by rw [size_setChan]; exact h.size, fun k hk hn => by
    rw [chan_other (fun e => hc.elim (fun h1 => hn (by rw [e]; exact h1)) (fun h1 => by omega))]; exact h.block k hk hn⟩

theorem zeroI (w : World) : (zeroValue 3).run Try.prog w = .ok (.int .i64 0) w := by kernel_rfl

set_option maxHeartbeats 1000000 in
set_option maxRecDepth 100000 in
theorem len_calls {w : World} {p c : Nat} {v : Value} {items buf : List Int} {s r : Nat} (h : BagIs w p c v items buf s r) (hl : items.length + buf.length ≤ 10000) :
    Calls Try.prog 32 #[.pointer (some ⟨p, 0, none⟩)] w fun e w' => e = .returned (.int .i64 ((items.length + buf.length : Nat) : Int)) ∧ ∃ n, w' = w.drewN n := by
  obtain ⟨A, cp, rfl⟩ := slice_form h.row
  have c0 : w.cell? ⟨p, 0, none⟩ = some (.chan (some c)) := cell_of h.obj 0
  have c1 : w.cell? ⟨p, 1, none⟩ = some (.slice A items.length cp) := cell_of h.obj 1
  have hlc : ∀ ty n, (Builtin.len_ #[63] ty #[.chan (some c)]).run Try.prog (w.drewN n) = .ok (goInt buf.length) (w.drewN n) := fun ty n => by
    have := run_len_chan (P := Try.prog) (w := w.drewN n) 63 ty Try.underlying63 h.chan
    simpa using this
  have hs : IntKind.i64.wrap ((items.length : Int) + buf.length) = ((items.length + buf.length : Nat) : Int) := by
    rw [IntWalk.i64_in _ (by omega)]; omega
  clear h
  refine calls_k fun R hR => ?_
  go_enter Try.func32, Try.ntmps32
  go_wp2
  go_quiet (fail)
  go_wp2
  exact hR.out _ _ ⟨rfl, nq, rfl⟩

set_option maxHeartbeats 1000000 in
set_option maxRecDepth 100000 in
theorem put_calls {w : World} {p : Nat} {F : List Nat} {l : List Int} (x : Int) (h : BagAt w p F l) :
    Calls Try.prog 29 #[.pointer (some ⟨p, 0, none⟩), .int .i64 x] w fun e w' => e = .returned (.bool (decide (l.length < 4000))) ∧ BagAt w' p F (if l.length < 4000 then l ++ [x] else l) ∧ Fr F w w' := by
  obtain ⟨c, v, items, buf, s, r, rfl, hB, rfl, hl⟩ := h
  have HL := Lib.hid (len_calls hB (by simp at hl; omega))
  refine calls_k fun R hR => ?_
  have hsz : (items ++ buf).length = items.length + buf.length := by simp
  by_cases hf : items.length + buf.length < 4000
  · have HG := Lib.hid (show decide ((items ++ buf).length < 4000) = true by simp; omega)
    have HG2 := Lib.hid (show (items ++ buf).length < 4000 by simp; omega)
    clear hsz hl
    have c0 : w.cell? ⟨p, 0, none⟩ = some (.chan (some c)) := cell_of hB.obj 0
    go_enter Try.func29, Try.ntmps29
    go_upto_region 5 with (go_at_call 32; refine HL.out.mono ?_; rintro e w1 ⟨rfl, n, rfl⟩)
    refine wp_select_send rfl rfl (zeroI _) rfl (encI x) rfl (buf := (buf.map encI).toArray) (s := s) (r := r) hB.chan (by simp; omega) ?_
    go_wp2
    have hR := hR.out
    rw [HG.out, if_pos HG2.out] at hR
    refine hR _ _ ⟨rfl, ?_, ?_⟩
    · refine ⟨c, v, items, buf ++ [x], s + 1, r, by simp, ?_, rfl, by have := HG2.out; simp at this ⊢; omega⟩
      obtain ⟨n0, n1, n2, n3⟩ := hB.ne
      refine ⟨(chan_other n0).trans hB.obj, ?_, ?_⟩
      · exact (heap_setChan (w.drewN n) c _ _ _ _ _ _ n2).trans (by simp)
      · refine ⟨hB.row.1, ?_⟩
        rcases hB.row.2 with h2 | ⟨g, cap, cur, rfl, hb, hh, r⟩
        · exact .inl h2
        · exact .inr ⟨g, cap, cur, rfl, hb, (chan_other (n3 g rfl).2.2).trans hh, r⟩
    · exact Fr.setChan ((Fr.refl _ w).drewN n) (.inl (by simp [fpB])) _ _ _ _ _ _
  · have HG := Lib.hid (show decide ((items ++ buf).length < 4000) = false by simp; omega)
    have HG2 := Lib.hid (show ¬ (items ++ buf).length < 4000 by simp; omega)
    have HLL := Lib.hid hl
    clear hsz hl
    go_enter Try.func29, Try.ntmps29
    go_wp2_with (go_at_call 32; refine HL.out.mono ?_; rintro e w1 ⟨rfl, n, rfl⟩)
    have hR := hR.out
    rw [HG.out, if_neg HG2.out] at hR
    exact hR _ _ ⟨rfl, ⟨c, v, items, buf, s, r, rfl, hB.move (fun _ _ => rfl), rfl, HLL.out⟩, (Fr.refl _ w).drewN n⟩

theorem extract_cons (v : Value) (l : List Value) : (v :: l).toArray.extract 1 (v :: l).toArray.size = l.toArray := by
  apply Array.ext'
  rw [Array.toList_extract]
  simp
theorem infoI : (Try.prog.info? 3).map (fun i => (i.zero, i.size, i.bytes)) = some (some (.int .i64 0), 1, 8) := by kernel_rfl
set_option maxHeartbeats 2000000 in
set_option maxRecDepth 100000 in
theorem drain_calls {w : World} {p : Nat} {F : List Nat} {l : List Int} (h : BagAt w p F l) :
    Calls Try.prog 46 #[.pointer (some ⟨p, 0, none⟩)] w fun e w' => ∃ c v s r, e = .returned (.tuple #[]) ∧ BagIs w' p c v l [] s r ∧ Fr F w w' ∧ Fresh F (fpB p c v) w := by
  obtain ⟨c, v, items, buf, s, r, rfl, hB, rfl, hl⟩ := h
  refine calls_k fun R hR => ?_
  have HB := Lib.hid hB
  have HL := Lib.hid hl
  clear hB hl
  go_enter Try.func46, Try.ntmps46
  go_wp2
  go_loopg [2] (buf.length) (fun g u wr => ∃ v1 it1 b1 s1 r1, Hid (b1.length = g) ∧ Hid (it1 ++ b1 = items ++ buf) ∧ BagIs wr p c v1 it1 b1 s1 r1 ∧ Fr (fpB p c v) w wr ∧ Fresh (fpB p c v) (fpB p c v1) w)
  case atStart => exact ⟨v, items, buf, s, r, Lib.hid rfl, Lib.hid rfl, HB.out, Fr.refl _ _, fun k hk => .inl hk⟩
  case round =>
    obtain ⟨v1, it1, b1, s1, r1, hg, he, hB, hF, hN⟩ := hrel
    have c0 : wr.cell? ⟨p, 0, none⟩ = some (.chan (some c)) := cell_of hB.obj 0
    have c1 : wr.cell? ⟨p, 1, none⟩ = some v1 := cell_of hB.obj 1
    have f1 : wr.frozen? ⟨p, 1, none⟩ = false := froz_of hB.obj 1
    obtain ⟨n0, n1, n2, n3⟩ := hB.ne
    go_upto_region 1 with (fail)
    cases b1 with
    | nil =>
      refine wp_select_none rfl rfl (zeroI _) rfl hB.chan ?_
      go_wp2
      have he' := he.out
      rw [List.append_nil] at he'
      subst he'
      refine bodyPost_ret (results_none rfl _ _ _) rfl ?_
      exact hR.out _ _ ⟨c, v1, s1, r1, rfl, hB, hF, hN⟩
    | cons x b1 =>
      have hlen : it1.length + (x :: b1).length ≤ 4000 := by
        have := HL.out; rw [← he.out] at this; simpa using this
      refine wp_select_recv rfl rfl (zeroI _) rfl hB.chan (by simp) ?_
      have hg2 : (List.map encI (x :: b1)).toArray.getD 0 undef = .int .i64 x := rfl
      have hex : (List.map encI (x :: b1)).toArray.extract 1 (List.map encI (x :: b1)).toArray.size = (List.map encI b1).toArray := extract_cons _ _
      rw [hg2, hex]
      have hF1 : Fr [c] wr (wr.setChan c 4000 (List.map encI b1).toArray false s1 (r1 + 1) false) := Fr.setChan (Fr.refl _ _) (.inl (by simp)) _ _ _ _ _ _
      have hW1 : (wr.setChan c 4000 (List.map encI b1).toArray false s1 (r1 + 1) false).heap[c]? = some (.chan 4000 (List.map encI b1).toArray false s1 (r1 + 1) false) := heap_setChan _ _ _ _ _ _ _ _ n2
      obtain ⟨W1, hW⟩ : ∃ W1, W1 = wr.setChan c 4000 (List.map encI b1).toArray false s1 (r1 + 1) false := ⟨_, rfl⟩
      rw [← hW] at hF1 hW1 ⊢
      clear hW hg2 hex
      have hs1 := hF1.size
      have o1 : W1.heap[p]? = some (.cells #[.chan (some c), v1] 65 (0, 0)) := (hF1.block p n1 (by simpa using n0)).trans hB.obj
      have hrow := row_move hB.row (w' := W1) (fun k hk => hF1.block k (n3 k hk).1 (by simpa using (n3 k hk).2.2))
      have hpo := row_ne_obj hrow o1 (by decide)
      have hco : c ∉ v1.ownBlock.toList := fun hk => (n3 c (by simpa using hk)).2.2 rfl
      obtain ⟨A, cp, rfl⟩ := slice_form hrow
      clear c0 c1 f1
      have c1 := cell_of o1 1
      simp only [List.getElem?_toArray, List.getElem?_cons_succ, List.getElem?_cons_zero] at c1
      have hb1 : it1.length < maxLen := by simp at hlen; unfold maxLen; omega
      have hb2 : (it1.length + 1) * 8 ≤ 140737488355328 := by simp at hlen; omega
      go_wp2_with (at_builtin; (refine wp_append1 rfl _ _ 24 3 rfl Try.underlying24 infoI rfl (by decide) hrow rfl [.int .i64 x] rfl rfl (by simp [Value.oneCell']) hb1 hb2 ?_); intro A2 cp2 W2 hown hF2 hN2; (have o2 := (hF2.block p (Nat.lt_of_lt_of_le n1 hs1) hpo).trans o1; have c1b := cell_of o2 1; have f1b := froz_of o2 1; simp only [List.getElem?_toArray, List.getElem?_cons_succ, List.getElem?_cons_zero] at c1b))
      go_roundg (b1.length)
      case measure => have := hg.out; simp at this; omega
      case rel =>
        have hc2 : W2.heap[c]? = some (.chan 4000 (List.map encI b1).toArray false s1 (r1 + 1) false) := (hF2.block c (Nat.lt_of_lt_of_le n2 hs1) hco).trans hW1
        have o2 : W2.heap[p]? = some (.cells #[.chan (some c), .slice A it1.length cp] 65 (0, 0)) := (hF2.block p (Nat.lt_of_lt_of_le n1 hs1) hpo).trans o1
        have hpn := row_ne_obj hown o2 (by decide)
        refine ⟨.slice A2 (it1.length + 1) cp2, it1 ++ [x], b1, s1, r1 + 1, rfl, ?_, ⟨obj_set o2 1 _, (set_far W2 (a := ⟨p, 1, none⟩) (Ne.symm n0) _).trans hc2, ?_⟩, ?_, ?_⟩
        · have := he.out; unfold Hid; rw [← this]; simp
        · have : (it1 ++ [x]).length = it1.length + 1 := by simp
          rw [this, List.map_append]
          exact row_move hown (fun k hk => set_far W2 (a := ⟨p, 1, none⟩) (fun (e : k = p) => hpn (by rw [hk, e]; simp)) _)
        · refine Fr.setCell ?_ (.inl (by simp [fpB])) _
          refine (hF.trans hF1 (fun k hk => .inl (by simp at hk; simp [fpB, hk]))).trans hF2 (fun k hk => hN k (by simp [fpB] at hk ⊢; exact .inr (.inr hk)))
        · intro k hk
          simp only [fpB, List.mem_cons] at hk
          rcases hk with rfl | rfl | hk
          · exact .inl (by simp [fpB])
          · exact .inl (by simp [fpB])
          · rcases hN2 k hk with h1 | h1
            · exact hN k (by simp [fpB] at h1 ⊢; exact .inr (.inr h1))
            · exact .inr (by have := hF.size; omega)

/-! ### slices.Delete of one element, at a row of one's own -/
set_option maxHeartbeats 2000000 in
set_option maxRecDepth 100000 in
theorem del_calls {w : World} {A : Option Addr} {n cp : Nat} {xs : List Value} (i : Nat) (h : w.ownsRow 0 3 1 (.slice A n cp) n xs) (hone : ∀ u ∈ xs, u.oneCell' = true) (hi : i < n) :
    Calls Try.prog 47 #[.slice A n cp, .int .i64 i, .int .i64 ((i : Int) + 1)] w fun e w' => e = .returned (.slice A (n - 1) cp) ∧ w'.ownsRow 0 3 1 (.slice A (n - 1) cp) (n - 1) (xs.take i ++ xs.drop (i + 1)) ∧ Fr (Value.slice A n cp).ownBlock.toList w w' := by
  obtain ⟨hx, h2⟩ := h
  rcases h2 with ⟨h2, h3⟩ | ⟨g, cap, cur, he, _, hg, hn, hm, hcs, ht⟩
  · omega
  · injection he with he1 he2 he3
    subst he1 he3
    obtain ⟨i0, hi0, hz0, hz1, hz2⟩ := info_parts infoI
    unfold maxLen at hm
    rw [Nat.mul_one] at hcs ht hx
    have hcell : ∀ j, j < cp → (w.cell? ⟨g, j, none⟩).isSome = true := fun j hj => by rw [cell_of hg]; simp [hcs, hj]
    have hfz : ∀ j, w.frozen? ⟨g, j, none⟩ = false := fun j => froz_of hg j
    -- what is moved to the left
    obtain ⟨news, hnews⟩ : ∃ news, news = xs.drop (i + 1) := ⟨_, rfl⟩
    have hlen : news.length = n - (i + 1) := by rw [hnews, List.length_drop, hx]
    have s2 : Hid (∀ u ∈ news, u.oneCell' = true) := fun u hu => hone u (by rw [hnews] at hu; exact List.mem_of_mem_drop hu)
    have s1 : Hid (news.length = (n - (i + 1)) * 1) := by rw [Nat.mul_one]; exact hlen
    have s3 : Hid (∀ t, t < news.length → (w.drew.cell? ⟨g, 0 + i * 1 + t, none⟩).isSome = true ∧ w.drew.frozen? ⟨g, 0 + i * 1 + t, none⟩ = false) := by
      intro t ht'
      rw [hlen] at ht'
      exact ⟨hcell _ (by omega), hfz _⟩
    have hcurx : ∀ j, j < n → cur[j]? = xs[j]? := fun j hj => by
      rw [← ht, List.getElem?_take, if_pos hj, Array.getElem?_toList]
    obtain ⟨A1, hA, hsrc⟩ : ∃ A1 : Addr, (if cp = i + 1 then some (⟨g, 0, none⟩ : Addr) else some ⟨g, i + 1, none⟩) = some A1 ∧ Hid (∀ t u, news[t]? = some u → w.drew.cell? (A1.add t) = some u) := by
      by_cases h : cp = i + 1
      · refine ⟨⟨g, 0, none⟩, by simp [h], fun t u hu => ?_⟩
        have h0 : news.length = 0 := by rw [hlen]; omega
        rw [List.length_eq_zero_iff.1 h0] at hu
        simp at hu
      · refine ⟨⟨g, i + 1, none⟩, by simp [h], fun t u hu => ?_⟩
        have hlt := (List.getElem?_eq_some_iff.1 hu).1
        rw [hlen] at hlt
        rw [hnews, List.getElem?_drop] at hu
        have e1 : (⟨g, i + 1, none⟩ : Addr).add t = ⟨g, i + 1 + t, none⟩ := by unfold Addr.add; split <;> simp_all
        rw [e1]
        show w.cell? _ = _
        rw [cell_of hg, hcurx _ (by omega)]
        exact hu
    -- the world behind the append
    obtain ⟨W1, hW1⟩ : ∃ W1, W1 = w.drew.setCells g (0 + i * 1) news := ⟨_, rfl⟩
    obtain ⟨cur1, hg1, hcs1, hl1⟩ := setCells_row (w := w.drew) news (0 + i * 1) cur hg (by rw [hlen, hcs]; omega)
    rw [← hW1] at hg1
    have hcl : ∀ ty, (Builtin.clear_ #[24] ty #[.slice (some ⟨g, 0 + (i + (n - (i + 1))), none⟩) (n - (i + (n - (i + 1)))) (cp - (i + (n - (i + 1))))]).run Try.prog W1 = .ok (.tuple #[]) (W1.setCells g (0 + (i + (n - (i + 1)))) (List.replicate (n - (i + (n - (i + 1)))) (.int .i64 0))) :=
      fun ty => Lib.run_clear_slice W1 _ _ ty _ Try.underlying24 zeroI rfl rfl g _ _ _ (by omega) (fun t _ => by rw [cell_of hg1]; simp [hcs1, hcs]; omega) (fun t _ => froz_of hg1 _)
    obtain ⟨cur2, hg2, hcs2, hl2⟩ := setCells_row (w := W1) (List.replicate (n - (i + (n - (i + 1)))) (.int .i64 0)) (0 + (i + (n - (i + 1)))) cur1 hg1 (by rw [List.length_replicate, hcs1, hcs]; omega)
    have hs0 := setCells_same g news (0 + i * 1) w.drew
    have hs1 := setCells_same g (List.replicate (n - (i + (n - (i + 1)))) (Value.int .i64 0)) (0 + (i + (n - (i + 1)))) W1
    have hW : Hid (W1 = w.drew.setCells g (0 + i * 1) news) := hW1
    have fin : Hid ((W1.setCells g (0 + (i + (n - (i + 1)))) (List.replicate (n - (i + (n - (i + 1)))) (.int .i64 0))).ownsRow 0 3 1 (.slice (some ⟨g, 0, none⟩) (n - 1) cp) (n - 1) (xs.take i ++ xs.drop (i + 1)) ∧
        Fr [g] w (W1.setCells g (0 + (i + (n - (i + 1)))) (List.replicate (n - (i + (n - (i + 1)))) (.int .i64 0)))) := by
      refine ⟨⟨?_, .inr ⟨g, cp, cur2, rfl, Nat.zero_le _, hg2, by omega, by unfold maxLen; omega, by rw [hcs2, hcs1, hcs]; omega, ?_⟩⟩, ?_⟩
      · rw [List.length_append, List.length_take, List.length_drop, hx]; omega
      · rw [hl2, Nat.mul_one, show 0 + (i + (n - (i + 1))) = n - 1 by omega]
        rw [List.append_assoc, List.take_append_of_le_length (by rw [List.length_take, Array.length_toList, hcs1, hcs]; omega), List.take_take, Nat.min_self, hl1, Nat.mul_one, Nat.zero_add]
        have hti : cur.toList.take i = xs.take i := by rw [← ht, List.take_take, Nat.min_eq_left (by omega)]
        rw [hti, hnews, List.take_append_of_le_length (by rw [List.length_append, List.length_take, List.length_drop, hx]; omega), List.take_of_length_le (by rw [List.length_append, List.length_take, List.length_drop, hx]; omega)]
      · refine ⟨?_, ?_, ?_, ?_, fun k hk hn => ?_⟩
        · rw [hs1.1, hW1, hs0.1]; rfl
        · rw [hs1.2.1, hW1, hs0.2.1]; rfl
        · rw [hs1.2.2.1, hW1, hs0.2.2.1]; rfl
        · rw [hs1.2.2.2, hW1, hs0.2.2.2]; exact Nat.le_refl _
        · rw [setCells_far _ _ k (by simpa using hn), hW1, setCells_far _ _ k (by simpa using hn)]; rfl
    simp only [Nat.zero_add] at hcl fin
    have hic : i ≤ cp := by omega
    have hjc : i + 1 ≤ cp := by omega
    clear hW1 hg1 hg2 hl1 hl2 hs0 hs1 hcs1 hcs2 hcell hfz hcurx hnews hlen ht hx hcs hone hg
    refine calls_k fun R hR => ?_
    go_enter Try.func47, Try.ntmps47
    have e1 : 0 ≤ (i : Int) + 1 := by omega
    have e2 : (i : Int) + 1 ≤ (n : Int) := by omega
    go_wp2_with fail
    go_region_law (refine step_append_room rfl (.tmp 22) (.tmp 25) 24 rfl 3 i0 1 Try.underlying24 hi0 hz1 g 0 i cp (by simp [Act.eval, Act.put]) A1 (n - (i + 1)) (cp - (i + 1)) news (by simp [Act.eval, Act.put]) s1.out hsrc.out s2.out (by omega) s3.out ?_; rw [← hW.out])
    go_wp2
    refine hR.out _ _ ⟨?_, fin.out⟩
    rw [show n - 1 = i + (n - (i + 1)) by omega]
    rfl

/-! ### At, Take, Double, NewBag -/
def atP (l : List Int) (i : Int) : Int × Bool := if 0 ≤ i ∧ i < l.length then (l.getD i.toNat 0, true) else (0, false)
set_option maxHeartbeats 2000000 in
set_option maxRecDepth 100000 in
theorem at_calls {w : World} {p : Nat} {F : List Nat} {l : List Int} (i : Int) (h : BagAt w p F l) :
    Calls Try.prog 30 #[.pointer (some ⟨p, 0, none⟩), .int .i64 i] w fun e w' => ∃ c v s r, e = .returned (.tuple #[.int .i64 (atP l i).1, .bool (atP l i).2]) ∧ BagIs w' p c v l [] s r ∧ Fr F w w' ∧ Fresh F (fpB p c v) w := by
  have HD := Lib.hid (drain_calls h)
  refine calls_k fun R hR => ?_
  clear h
  by_cases h0 : 0 ≤ i ∧ i < l.length
  · obtain ⟨h0, h1⟩ := h0
    obtain ⟨n, rfl⟩ := Int.eq_ofNat_of_zero_le h0
    have h2 : n < l.length := by omega
    obtain ⟨x, hx⟩ : ∃ x, x = l.getD n 0 := ⟨_, rfl⟩
    have ha : atP l n = (x, true) := by rw [hx]; exact if_pos ⟨h0, h1⟩
    have hg : (l.map encI)[n]? = some (encI x) := by rw [hx, List.getElem?_map, List.getElem?_eq_getElem h2]; simp [List.getD_eq_getElem?_getD, h2]
    have HG := Lib.hid hg
    rw [ha] at hR
    clear ha h0 hx hg
    go_enter Try.func30, Try.ntmps30
    go_wp2_with (go_at_call 46; refine HD.out.mono ?_; rintro e w1 ⟨c, v, s, r, rfl, hB, hF, hN⟩; obtain ⟨A, cp, rfl⟩ := slice_form hB.row; have c1 := cell_of hB.obj 1; simp only [List.getElem?_toArray, List.getElem?_cons_succ, List.getElem?_cons_zero] at c1; obtain ⟨g, rfl, hc⟩ := row_at hB.row n (encI x) HG.out)
    exact hR.out _ _ ⟨_, _, _, _, rfl, hB, hF, hN⟩
  · have ha : atP l i = (0, false) := if_neg h0
    rw [ha] at hR
    clear ha
    by_cases h1 : i < 0
    · clear h0
      go_enter Try.func30, Try.ntmps30
      go_wp2_with (go_at_call 46; refine HD.out.mono ?_; rintro e w1 ⟨c, v, s, r, rfl, hB, hF, hN⟩; obtain ⟨A, cp, rfl⟩ := slice_form hB.row; have c1 := cell_of hB.obj 1; simp only [List.getElem?_toArray, List.getElem?_cons_succ, List.getElem?_cons_zero] at c1)
      exact hR.out _ _ ⟨_, _, _, _, rfl, hB, hF, hN⟩
    · have h2 : (l.length : Int) ≤ i := by omega
      have h3 : 0 ≤ i := by omega
      clear h0
      go_enter Try.func30, Try.ntmps30
      go_wp2_with (go_at_call 46; refine HD.out.mono ?_; rintro e w1 ⟨c, v, s, r, rfl, hB, hF, hN⟩; obtain ⟨A, cp, rfl⟩ := slice_form hB.row; have c1 := cell_of hB.obj 1; simp only [List.getElem?_toArray, List.getElem?_cons_succ, List.getElem?_cons_zero] at c1)
      exact hR.out _ _ ⟨_, _, _, _, rfl, hB, hF, hN⟩
theorem BagIs.at_ {w : World} {p c : Nat} {v : Value} {l : List Int} {s r : Nat} (h : BagIs w p c v l [] s r) (hl : l.length ≤ 4000) : BagAt w p (fpB p c v) l := ⟨c, v, l, [], s, r, by simp, h, rfl, hl⟩
theorem BagAt.len {w : World} {p : Nat} {F : List Nat} {l : List Int} (h : BagAt w p F l) : l.length ≤ 4000 := by
  obtain ⟨_, _, _, _, _, _, _, _, _, h⟩ := h; exact h

set_option maxHeartbeats 2000000 in
set_option maxRecDepth 100000 in
theorem take_calls {w : World} {p : Nat} {F : List Nat} {l : List Int} (i : Int) (h : BagAt w p F l) :
    Calls Try.prog 31 #[.pointer (some ⟨p, 0, none⟩), .int .i64 i] w fun e w' => ∃ F', e = .returned (.tuple #[.int .i64 (atP l i).1, .bool (atP l i).2]) ∧ BagAt w' p F' (if (atP l i).2 then l.eraseIdx i.toNat else l) ∧ Fr F w w' ∧ Fresh F F' w := by
  have HA := Lib.hid (at_calls i h)
  have HL := Lib.hid h.len
  refine calls_k fun R hR => ?_
  clear h
  by_cases h0 : 0 ≤ i ∧ i < l.length
  · obtain ⟨h0, h1⟩ := h0
    obtain ⟨n, rfl⟩ := Int.eq_ofNat_of_zero_le h0
    have h2 : n < l.length := by omega
    obtain ⟨x, hx⟩ : ∃ x, x = l.getD n 0 := ⟨_, rfl⟩
    have ha : atP l n = (x, true) := by rw [hx]; exact if_pos ⟨h0, h1⟩
    rw [ha] at hR HA
    have hb : (n : Int) + 1 ≤ 9223372036854775807 := by have := HL.out; omega
    clear ha h0 hx
    go_enter Try.func31, Try.ntmps31
    go_wp2_with (first
      | (go_at_call 30; refine HA.out.mono ?_; rintro e w1 ⟨c, v, s, r, rfl, hB, hF, hN⟩; obtain ⟨A, cp, rfl⟩ := slice_form hB.row; have c1 := cell_of hB.obj 1; simp only [List.getElem?_toArray, List.getElem?_cons_succ, List.getElem?_cons_zero] at c1)
      | (go_at_call 47; refine (del_calls n hB.row (ints_oneCell .i64 l) h2).mono ?_; rintro e w2 ⟨rfl, hrow, hF2⟩; have hpn := row_ne_obj hB.row hB.obj (by decide); have o2 := (hF2.block p hB.ne.2.1 hpn).trans hB.obj; have c2 := cell_of o2 1; have f2 := froz_of o2 1; simp only [List.getElem?_toArray, List.getElem?_cons_succ, List.getElem?_cons_zero] at c2))
    have hcn : c ∉ (Value.slice A l.length cp).ownBlock.toList := fun hk => (hB.ne.2.2.2 c (by simpa using hk)).2.2 rfl
    refine hR.out _ _ ⟨fpB p c (.slice A (l.length - 1) cp), rfl, ?_, ?_, ?_⟩
    · simp only [if_true, Int.toNat_natCast]
      have hlen : (l.eraseIdx n).length = l.length - 1 := by rw [List.length_eraseIdx, if_pos h2]
      refine ⟨c, _, l.eraseIdx n, [], s, r, by simp, ⟨obj_set o2 1 _, ?_, ?_⟩, rfl, by rw [hlen]; have := HL.out; omega⟩
      · exact (set_far w2 (a := ⟨p, 1, none⟩) (Ne.symm hB.ne.1) _).trans ((hF2.block c hB.ne.2.2.1 hcn).trans hB.chan)
      · rw [hlen, List.eraseIdx_eq_take_drop_succ, List.map_append, List.map_take, List.map_drop]
        exact row_move hrow (fun k hk => set_far w2 (a := ⟨p, 1, none⟩) (fun (e : k = p) => hpn (by
          rw [← e]; cases A with
          | none => simp [Value.ownBlock] at hk
          | some a => simp [Value.ownBlock] at hk ⊢; exact hk.symm)) _)
    · refine Fr.setCell (hF.trans hF2 fun k hk => hN k ?_) ?_ _
      · simp only [fpB, List.mem_cons]; exact .inr (.inr hk)
      · exact hN p (by simp [fpB])
    · intro k hk
      refine hN k ?_
      simp only [fpB, List.mem_cons] at hk ⊢
      rcases hk with hk | hk | hk
      · exact .inl hk
      · exact .inr (.inl hk)
      · refine .inr (.inr ?_)
        cases A with
        | none => simp [Value.ownBlock] at hk
        | some a => simpa [Value.ownBlock] using hk
  · have ha : atP l i = (0, false) := if_neg h0
    rw [ha] at hR HA
    clear ha h0
    go_enter Try.func31, Try.ntmps31
    go_wp2_with (go_at_call 30; refine HA.out.mono ?_; rintro e w1 ⟨c, v, s, r, rfl, hB, hF, hN⟩)
    refine hR.out _ _ ⟨fpB p c v, rfl, ?_, hF, hN⟩
    exact hB.at_ HL.out

theorem make_chan (w : World) : (Instr.makeChan 63 (.int .i64 4000)).run Try.prog w = .ok (.chan (some w.heap.size)) (w.alloc (.chan 4000 #[] false 0 0 false)) := by kernel_rfl
set_option maxHeartbeats 2000000 in
set_option maxRecDepth 100000 in
theorem new_calls (w : World) :
    Calls Try.prog 28 #[] w fun e w' => ∃ p F, e = .returned (.pointer (some ⟨p, 0, none⟩)) ∧ BagAt w' p F [] ∧ Fr [] w w' ∧ Fresh [] F w := by
  have hmk := make_chan
  refine calls_k fun R hR => ?_
  go_enter Try.func28, Try.ntmps28
  go_wp2
  have hp : w.heap.size + 1 = (w.alloc (.chan 4000 #[] false 0 0 false)).heap.size := by simp
  refine hR.out _ _ ⟨w.heap.size + 1, fpB (w.heap.size + 1) w.heap.size (.slice none 0 0), rfl, ⟨w.heap.size, .slice none 0 0, [], [], 0, 0, rfl, ⟨?_, ?_, World.ownsRow_nil _ _ _ _⟩, rfl, by simp⟩, ((Fr.refl _ w).alloc _).alloc _, ?_⟩
  · rw [hp]; exact (Go.MapKept.heap_alloc _ _).1
  · rw [Below.heap_alloc _ _ _ (by simp)]; exact (Go.MapKept.heap_alloc _ _).1
  · intro k hk
    simp [fpB, Value.ownBlock] at hk
    right; omega

set_option maxHeartbeats 2000000 in
set_option maxRecDepth 100000 in
theorem double_calls {w : World} {p : Nat} {F : List Nat} {l : List Int} (i : Int) (h : BagAt w p F l) :
    Calls Try.prog 36 #[.pointer (some ⟨p, 0, none⟩), .int .i64 i] w fun e w' => ∃ F', e = .returned (.bool ((atP l i).2 && decide (l.length < 4000))) ∧ BagAt w' p F' (if (atP l i).2 && decide (l.length < 4000) then l ++ [(atP l i).1] else l) ∧ Fr F w w' ∧ Fresh F F' w := by
  have HA := Lib.hid (at_calls i h)
  have HL := Lib.hid h.len
  refine calls_k fun R hR => ?_
  clear h
  cases ha : (atP l i).2 with
  | false =>
    rw [ha] at hR HA
    clear ha
    go_enter Try.func36, Try.ntmps36
    go_wp2_with (go_at_call 30; refine HA.out.mono ?_; rintro e w1 ⟨c, v, s, r, rfl, hB, hF, hN⟩)
    refine hR.out _ _ ⟨fpB p c v, rfl, ?_, hF, hN⟩
    exact hB.at_ HL.out
  | true =>
    rw [ha] at hR HA
    obtain ⟨x, hx⟩ : ∃ x, x = (atP l i).1 := ⟨_, rfl⟩
    rw [← hx] at hR HA
    clear ha hx
    obtain ⟨q, hq⟩ : ∃ q : Bool, q = decide (l.length < 4000) := ⟨_, rfl⟩
    have hR2 : Hid (∀ (e : Ending) (w' : World), (∃ F', e = .returned (.bool q) ∧ BagAt w' p F' (if q = true then l ++ [x] else l) ∧ Fr F w w' ∧ Fresh F F' w) → R e w') := by
      have h2 := hR.out; rw [← hq, Bool.true_and] at h2; exact h2
    clear hR
    have HP : Hid (∀ (w1 : World) (F1 : List Nat), BagAt w1 p F1 l → Calls Try.prog 29 #[.pointer (some ⟨p, 0, none⟩), .int .i64 x] w1 fun e w' => e = .returned (.bool q) ∧ BagAt w' p F1 (if q = true then l ++ [x] else l) ∧ Fr F1 w1 w') := by
      intro w1 F1 h1
      refine (put_calls x h1).mono ?_
      rintro e w' ⟨h1, h2, h3⟩
      subst hq
      refine ⟨h1, ?_, h3⟩
      by_cases h4 : l.length < 4000
      · rw [if_pos h4] at h2; rw [if_pos (by simpa using h4)]; exact h2
      · rw [if_neg h4] at h2; rw [if_neg (by simpa using h4)]; exact h2
    clear hq
    go_enter Try.func36, Try.ntmps36
    go_wp2_with (first
      | (go_at_call 30; refine HA.out.mono ?_; rintro e w1 ⟨c, v, s, r, rfl, hB, hF, hN⟩)
      | (go_at_call 29; refine (HP.out _ _ (hB.at_ HL.out)).mono ?_; rintro e w2 ⟨rfl, hB2, hF2⟩))
    exact hR2.out _ _ ⟨fpB p c v, rfl, hB2, hF.trans hF2 hN, hN⟩
end Go.Np.Try
