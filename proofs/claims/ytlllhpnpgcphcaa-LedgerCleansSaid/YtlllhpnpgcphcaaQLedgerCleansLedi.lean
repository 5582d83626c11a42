/- A text that the row of LedgerCleans needs. (Pruned by tools/prune.py.) -/
import Derived.Test.YtlllhpnpgcphcaaQLedgerCleansLedh
set_option linter.unusedVariables false
set_option linter.unusedSimpArgs false
namespace Go.Np.Try
open Go.RowKit Go.Proofs Go.Proofs.Ytlllhpnpgcphcaa.PX Go.Proofs.YtlllhpnpgcphcaaW.PrintWords
theorem N_block2 {w : World} {base : Nat} {ok : Nat → Prop} {v : Value} {xs : List Int} (h : Kd.N (Kd.int .i64) 3 w base ok v xs) :
    (xs = [] ∧ ∃ c, v = .slice none 0 c) ∨ ∃ g c cs, v = .slice (some ⟨g, 0, none⟩) xs.length c ∧ base ≤ g ∧ w.heap[g]? = some (.cells cs 3 (0, 0)) ∧ cs.size = c ∧ c ≤ maxLen ∧ xs.length ≤ c ∧ (∀ i, i < xs.length → cs[i]? = some (.int .i64 (xs.getD i 0))) ∧ (Kd.int .i64).C w (some ⟨g, 0, none⟩) xs.length xs := by
  have h' := h
  obtain ⟨A, c, rfl⟩ := Kd.N_slice h
  obtain ⟨_, hle0, hC⟩ := Kd.N_reads' h
  obtain ⟨h0, rows, hlen, ⟨_, inner, ho, hr⟩, hf⟩ := h
  obtain ⟨hi, ho⟩ := ho
  rcases ho with hnone | ⟨g, cap, cells, e, hb, hh, hle, hmx, hsz, htk⟩
  · left
    have e1 := hnone.1
    injection e1 with e1 e2 e3
    exact ⟨List.eq_nil_of_length_eq_zero e2, c, by rw [e1, e2]⟩
  · right
    injection e with e1 e2 e3
    subst e1
    have h2 : (Kd.raw (Kd.int .i64).sz).sz = 1 := rfl
    rw [h2] at hsz
    refine ⟨g, c, cells, rfl, hb, hh, by omega, by omega, hle0, fun i hi => ?_, hC⟩
    · obtain ⟨ad, ea, hc⟩ := int_at hC i hi
      injection ea with ea
      subst ea
      have h3 : w.cell? ⟨g, i, none⟩ = some (.int .i64 (xs.getD i 0)) := by rw [addr_add _ _ rfl] at hc; simpa using hc
      rw [World.cell?, hh] at h3
      simpa using h3
theorem own_of_cells {W : World} {r c : Nat} {l : List Int} {ds : Array Value} (h1 : W.heap[r]? = some (.cells ds 3 (0, 0))) (h2 : ds.size = c) (hcm : c ≤ maxLen) (hlc : l.length ≤ c) (h3 : ∀ i, i < l.length → ds[i]? = some (.int .i64 (l.getD i 0))) : OwnI 0 W (.slice (some ⟨r, 0, none⟩) l.length c) l := by
  refine ⟨⟨by simp, .inr ⟨r, c, ds, rfl, Nat.zero_le _, h1, hlc, hcm, by omega, ?_⟩⟩, fun k _ => Nat.zero_le _⟩
  rw [Nat.mul_one]
  apply List.ext_getElem?
  intro p
  rw [List.getElem?_take, List.getElem?_map]
  by_cases hp : p < l.length
  · rw [if_pos hp, Array.getElem?_toList, h3 p hp, List.getD_eq_getElem?_getD, List.getElem?_eq_getElem hp]
    simp
  · rw [if_neg hp, List.getElem?_eq_none (by omega)]
    rfl
theorem nil_C (W : World) : (Kd.int .i64).C W none 0 [] := by
  obtain ⟨A, c, e, _, h⟩ := (OwnI.nil 0 W).sl
  injection e with e1 _ _
  rw [e1]; exact h
theorem ListsC.fr {w w' : World} {A : Option Addr} {L : List (List Int)} (h : ListsC w A L) (hF : Fr [] w w') : ListsC w' A L := by
  intro k hk
  obtain ⟨ad, h1, B, c, h2, h3, h4⟩ := h k hk
  exact ⟨ad, h1, B, c, (hF.cell (lt_cell h2) (by simp)).trans h2, h3, Kd.C_below h4 hF.below⟩
theorem clean_or (l : List Int) : (∀ n, n < l.length → cleanL [] (l.take n) = l.take n → l.getD n 0 ∉ l.take n) ∨ ∃ n, n < l.length ∧ cleanL [] (l.take n) = l.take n ∧ l.getD n 0 ∈ l.take n := by
  by_cases h : ∃ n, n < l.length ∧ cleanL [] (l.take n) = l.take n ∧ l.getD n 0 ∈ l.take n
  · exact .inr h
  · exact .inl (fun n h1 h2 h3 => h ⟨n, h1, h2, h3⟩)
theorem delete_calls {w : World} {base g b : Nat} {ok : Nat → Prop} {v : Value} {l : List Int} (h : Kd.N (Kd.int .i64) 3 w base ok v l) (hb : b < base) (hg0 : g < base) (hgb : g ≠ b) (hg : w.cell? ⟨g, 0, none⟩ = some (.map (some b))) (hM : SetAt w b []) :
    Calls Try.prog 92 #[v, .func (.func 94) #[] #[.pointer (some ⟨g, 0, none⟩)]] w fun e w' => ∃ u S, e = .returned u ∧ SlI w' u (cleanL [] l) ∧ Fr S w w' ∧ ∀ k ∈ S, k = b ∨ base ≤ k := by
  rcases N_block2 h with ⟨rfl, c, rfl⟩ | ⟨r, c, cs, rfl, hbr, hr, hs, hcm, hlc, hcs, hC⟩
  · have hC : (Kd.int .i64).C w none ([] : List Int).length [] := (Kd.N_reads' h).2.2
    refine (delete_same (c := c) (l := []) hC (fun ad e => by cases e) hgb hg hM (fun n hn => by simp at hn)).mono ?_
    rintro e w' ⟨rfl, _, hF⟩
    exact ⟨_, [b], rfl, ⟨none, c, rfl, Nat.zero_le _, nil_C w'⟩, hF, fun k hk => .inl (by simpa using hk)⟩
  · have hrb : r ≠ b := by omega
    have hgr : g ≠ r := by omega
    rcases clean_or l with hno | ⟨n, h1, h2, h3⟩
    · refine (delete_same (c := c) hC (fun ad e => by injection e with e; subst e; exact hrb) hgb hg hM hno).mono ?_
      rintro e w' ⟨rfl, he, hF⟩
      rw [he]
      exact ⟨_, [b], rfl, (own_of_cells ((hF.block r (Array.getElem?_eq_some_iff.1 hr).1 (by simpa using hrb)).trans hr) hs hcm hlc hcs).sl, hF, fun k hk => .inl (by simpa using hk)⟩
    · refine (delete_some hr hs hlc hcm hcs hC hrb hgb hgr hg hM h1 h2 h3).mono ?_
      rintro e w' ⟨u, rfl, hS, hF⟩
      exact ⟨u, [b, r], rfl, hS, hF, fun k hk => by
        simp at hk
        rcases hk with rfl | rfl
        · exact .inl rfl
        · exact .inr hbr⟩
set_option maxHeartbeats 4000000 in
set_option maxRecDepth 100000 in
theorem clean_calls {w : World} {A : Option Addr} {c : Nat} {L : List (List Int)} (hL : ListsC w A L) (hn : L.length ≤ 1000000) (hf : L.flatten.length ≤ 1000000) :
    Calls Try.prog 58 #[.slice A L.length c] w fun e w' => ∃ v, e = .returned v ∧ SlI w' v (cleanL [] L.flatten) ∧ Fr [] w w' := by
  have hmm := @run_makeMap Try.prog
  have HL := Lib.hid hL
  have HN := Lib.hid hn
  have HFL := Lib.hid hf
  refine calls_k fun R hR => ?_
  obtain ⟨N, hN⟩ : ∃ N, L.length = N := ⟨_, rfl⟩
  rw [hN]
  have HNN := Lib.hid hN
  obtain ⟨F, hFF⟩ : ∃ F, L.flatten = F := ⟨_, rfl⟩
  rw [hFF] at hR
  have HFF := Lib.hid hFF
  clear hL hn hf hN hFF
  go_enter Try.func58, Try.ntmps58
  go_upto_region 2 with (fail)
  obtain ⟨b, hb⟩ : ∃ b, b = w.heap.size := ⟨_, rfl⟩
  obtain ⟨W, hW⟩ : ∃ W, W = (w.alloc (.map #[] 0)).alloc (.cells #[.map (some w.heap.size)] 117) := ⟨_, rfl⟩
  have hF : Fr [] w W := by rw [hW]; exact ((Fr.refl _ _).alloc _).alloc _
  have hsz : W.heap.size = b + 2 := by rw [hW, hb]; simp
  have hMI : MapIs (fun a : Int => Value.int .i64 a) W b ([] : List (Int × Value)) := by rw [hW, hb]; exact (MapIs.made w).alloc _
  have hbox : W.cell? ⟨b + 1, 0, none⟩ = some (.map (some b)) := by
    have h1 := heap_alloc_new (w.alloc (.map #[] 0)) (.cells #[.map (some w.heap.size)] 117)
    rw [← hW] at h1
    have h2 : (w.alloc (.map #[] 0)).heap.size = b + 1 := by rw [hb]; simp
    rw [h2] at h1
    rw [cell_of h1, hb]; rfl
  have hset : SetAt W b [] := ⟨[], hMI, fun x => by simp [alook]⟩
  have HC := Lib.hid (concat_calls (c := c) (HL.out.fr hF) HN.out HFL.out)
  rw [← hW, ← hb]
  rw [HNN.out, HFF.out] at HC
  have HF := Lib.hid hF
  have HGE : Hid (∀ k, k = b ∨ W.heap.size ≤ k → w.heap.size ≤ k) := fun k hk => by rcases hk with h | h <;> omega
  have HB1 : Hid (b < W.heap.size) := by show _ < _; omega
  have HB2 : Hid (b + 1 < W.heap.size) := by show _ < _; omega
  have HB3 : Hid (b + 1 ≠ b) := by show _ ≠ _; omega
  have HSET := Lib.hid hset
  have HBOX := Lib.hid hbox
  clear hF hb hsz hset hbox hMI hW hmm
  go_wp2_with (first
    | (go_at_call 93; refine HC.out.mono ?_; rintro e w1 ⟨v, rfl, h1, h2, h3⟩
       obtain ⟨A1, c1, rfl⟩ := Kd.N_slice h1
       have hF1 := Fr.of_below [] h3
       have hs1 : SetAt w1 b [] := by
         obtain ⟨m, h5, h6⟩ := HSET.out
         exact ⟨m, h5.fr hF1 (by simp), h6⟩
       have HD := Lib.hid (delete_calls h1 (b := b) (g := b + 1) HB1.out HB2.out HB3.out ((hF1.cell (lt_cell HBOX.out) (by simp)).trans HBOX.out) hs1)
       have HF1 := Lib.hid hF1
       clear h1 h2 h3 hF1 hs1 HC)
    | (go_at_call 92; refine HD.out.mono ?_; rintro e w2 ⟨v, S, rfl, h1, h2, h3⟩
       obtain ⟨A2, c2, rfl, h4, h5⟩ := h1
       have HS2 : Hid (SlI w2 (.slice A2 (cleanL [] F).length c2) (cleanL [] F)) := ⟨A2, c2, rfl, h4, h5⟩
       have HF2 : Hid (Fr [] w w2) := (HF.out.trans HF1.out (by simp)).trans h2 (fun k hk => .inr (HGE.out k (h3 k hk)))
       clear h2 h3 h4 h5 HD))
  exact hR.out _ _ ⟨_, rfl, HS2.out, HF2.out⟩
end Go.Np.Try
