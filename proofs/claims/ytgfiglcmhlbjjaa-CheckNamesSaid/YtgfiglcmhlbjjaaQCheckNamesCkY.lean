/- What CheckNames needs. -/
import Derived.Test.YtgfiglcmhlbjjaaQCheckNamesCkVal
set_option linter.unusedVariables false
set_option linter.unusedSimpArgs false
namespace Go.Np.Try
open Go.RowKit Go.Proofs Go.Proofs.Ytgfiglcmhlbjjaa.PX Go.Proofs.YtgfiglcmhlbjjaaW.PrintWords
def selS (v : Int) (l : List (Int × Int)) : List Int := (l.filter fun q => decide (q.2 = v)).map (·.1)
theorem selS_append (v : Int) (l k : List (Int × Int)) : selS v (l ++ k) = selS v l ++ selS v k := by unfold selS; simp
theorem someB_set {st A B : List Int} (hst : okS st) (h : ∀ x, x ∈ A ↔ x ∈ B) : someB st A = someB st B :=
  Bool.eq_iff_iff.2 ⟨some_mono hst (fun x hx => (h x).1 hx), some_mono hst (fun x hx => (h x).2 hx)⟩
theorem OwnI.at {base : Nat} {w : World} {A : Option Addr} {c : Nat} {l : List Int} (h : OwnI base w (.slice A l.length c) l) (j : Nat) (hj : j < l.length) : ∃ g, A = some ⟨g, 0, none⟩ ∧ w.cell? ⟨g, j, none⟩ = some (.int .i64 (l.getD j 0)) := by
  refine row_at h.1 j _ ?_
  simp [List.getD_eq_getElem?_getD, List.getElem?_eq_getElem hj]
theorem said_vals (l : List (Int × Int)) : (l.map saidE).map valQ = l.map (·.2) := by rw [List.map_map]; rfl
section
variable {X : Nat → Prop} {w w' w1 : World} {p : Nat} {c c' : Co} {a a' : Pl}
set_option maxHeartbeats 8000000 in
set_option maxRecDepth 100000 in
theorem c_agreed (h : CoIn X w p c a) (hst : okS c.st) (hm : c.m.length < 1000000) (hsd : c.said.length ≤ 1000) :
    Calls Try.prog 31 #[.pointer (some ⟨p, 0, none⟩)] w fun e w' => e = .returned (.tuple #[.int .i64 c.agreed.1, .bool c.agreed.2]) ∧ Fr [] w w' := by
  obtain ⟨L, hL⟩ : ∃ L, ((c.said.map (·.2)).mergeSort fun x y => decide (x ≤ y)) = L := ⟨_, rfl⟩
  obtain ⟨cr, hcr⟩ : ∃ r, comR c.st c.m = r := ⟨_, rfl⟩
  have HCM := Lib.hid (zCom (h.tz hst hm))
  rw [hcr] at HCM
  obtain ⟨S, hS⟩ : ∃ S : Int → Bool, S = fun v => someB c.st (selS v c.said) := ⟨_, rfl⟩
  have hA : c.agreed = if cr.2 = true then (cr.1, true) else match L.find? S with | some v => (v, true) | none => (0, false) := by
    unfold Co.agreed; rw [hcr, hL, hS]; rfl
  obtain ⟨k1, b1⟩ := cr
  simp only at HCM hA
  have c9 : w.cell? ⟨p, 9, none⟩ = some (.pointer (some ⟨a.pt, 0, none⟩)) := h.cells 9
  have hlen : L.length = c.said.length := by rw [← hL]; simp
  have H := Lib.hid h
  have HSE := Lib.hid hS
  have HLL := Lib.hid hL
  have HST := Lib.hid hst
  refine calls_k fun R hR => ?_
  clear h hcr hS hL hst
  cases b1 with
  | true =>
    rw [if_pos rfl] at hA
    rw [hA] at hR
    clear hA
    go_enter Try.func31, Try.ntmps31
    go_wp2_with (go_at_call 44; refine HCM.out.mono ?_; rintro e w1 ⟨rfl, hf1⟩; have HF1 := Lib.hid hf1; clear hf1 HCM)
    exact hR.out _ _ ⟨rfl, HF1.out⟩
  | false =>
    rw [if_neg (by simp)] at hA
    have hsome : ∀ j, j < L.length → (∀ x ∈ L.take j, S x = false) → S (L.getD j 0) = true → c.agreed = (L.getD j 0, true) := by
      intro j hj h1 h2
      rw [hA, find_none_drop h1 hj h2]
    have hnone : (∀ x ∈ L, S x = false) → c.agreed = (0, false) := by
      intro h1
      rw [hA, List.find?_eq_none.2 (fun x hx => by simp [h1 x hx])]
    have HSM := Lib.hid hsome
    have HNO := Lib.hid hnone
    clear hsome hnone hA
    obtain ⟨NL, hNL⟩ : ∃ NL, L.length = NL := ⟨_, rfl⟩
    have hN1 : NL ≤ 1000 := by omega
    have HNL := Lib.hid hNL
    have HSL : Hid (c.said.length ≤ 1000) := hsd
    clear hNL hlen hsd
    go_enter Try.func31, Try.ntmps31
    go_upto_region 4 with (go_at_call 44; refine HCM.out.mono ?_; rintro e w1 ⟨rfl, hf1⟩; have HF1 := Lib.hid hf1; clear hf1 HCM)
    have H1 := Lib.hid (H.out.fr HF1.out)
    have c11 : w1.cell? ⟨p, 11, none⟩ = some (.map (some a.bs)) := H1.out.cells 11
    have HK := Lib.hid ((callsIn_wide (n := 6)).1 (vq_keys_in Fence.wide 6 trivial rfl a.bs w1))
    obtain ⟨W3, hW3⟩ : ∃ W3, W3 = w1.alloc (.cells #[.map (some a.bs)] 34) := ⟨_, rfl⟩
    have hF3 : Fr [] w1 W3 := by rw [hW3]; exact (Fr.refl _ _).alloc _
    have hb3 : W3.heap[w1.heap.size]? = some (.cells #[.map (some a.bs)] 34 (0, 0)) := by rw [hW3]; exact heap_alloc_new _ _
    have hso := vq_sorted w1.heap.size a.bs (c.said.map saidE) (fun q hq => by obtain ⟨u, _, rfl⟩ := List.mem_map.1 hq; rfl) (by have := HSL.out; simp; omega) (lt_cell (cell_of hb3 0)) (cell_of hb3 0) (H1.out.fr hF3).sds
    rw [said_vals, HLL.out] at hso
    have HSo := Lib.hid hso
    rw [← hW3] at HK
    have HF3 := Lib.hid hF3
    clear hF3 hb3 hW3 hso c9
    go_upto_region 5 with (first
      | (go_at_call 46; refine HK.out.mono ?_; rintro e w3 ⟨rfl, rfl⟩)
      | (go_at_call 45; refine HSo.out.mono ?_; rintro e w4 ⟨v, rfl, h4, hf4⟩; obtain ⟨A, d, rfl⟩ := h4.formN HNL.out; have H4 := Lib.hid h4; have HF4 := Lib.hid (HF1.out.trans (HF3.out.trans hf4 (by simp)) (by simp)); clear h4 hf4 HSo HK))
    clear c11
    go_loopg [30] NL (fun gn u wr => ∃ j : Nat, gn = NL - j ∧ u = .int .i64 (j : Int) ∧ j ≤ NL ∧ Hid (Fr [] w4 wr) ∧ Hid (∀ x ∈ L.take j, S x = false))
    case atStart => exact ⟨0, rfl, rfl, Nat.zero_le _, Fr.refl _ _, by intro x hx; simp at hx⟩
    case round =>
      obtain ⟨j, rfl, rfl, hj, HFr, HT⟩ := hrel
      by_cases hlt : j < NL
      · obtain ⟨wo, hwo⟩ : ∃ wo, wo = wr := ⟨_, rfl⟩
        subst hwo
        have hO := H4.out.fr HFr.out (by simp)
        have hO' := hO
        rw [← HNL.out] at hO'
        obtain ⟨gA, hgA, hcx⟩ := hO'.at j (by rw [HNL.out]; exact hlt)
        subst hgA
        obtain ⟨x, hx⟩ : ∃ x, L.getD j 0 = x := ⟨_, rfl⟩
        have HXL := Lib.hid hx
        have HIS := HSM.out j (by rw [HNL.out]; exact hlt) HT.out
        rw [hx] at hcx HIS
        have HIS := Lib.hid HIS
        have HTS : Hid (S x = false → ∀ y ∈ L.take (j + 1), S y = false) := fun hs y hy => by
          rcases take_mem_succ (by rw [HNL.out]; exact hlt) hy with h1 | h1
          · exact HT.out y h1
          · rw [h1, HXL.out]; exact hs
        have HFw : Hid (Fr [] w wo) := HF4.out.trans HFr.out (by simp)
        have hr1 := H.out.fr HFw.out
        have c11 : wo.cell? ⟨p, 11, none⟩ = some (.map (some a.bs)) := hr1.cells 11
        obtain ⟨ob, hranges, hI⟩ := IterIs.begin (P := Try.prog) (k := 3) hr1.sds
        have hrange := hranges 34 3 Try.underlying34
        have hF2 : Fr [] wo (wo.alloc ob) := (Fr.refl _ _).alloc _
        obtain ⟨r, hr⟩ : ∃ r, r = wo.heap.size := ⟨_, rfl⟩
        obtain ⟨W2, hW2⟩ : ∃ W2, W2 = wo.alloc ob := ⟨_, rfl⟩
        rw [← hr, ← hW2] at hrange hI
        rw [← hW2] at hF2
        have hrw : wo.heap.size ≤ r := Nat.le_of_eq hr.symm
        have hr2 : r < W2.heap.size := hI.lt.2
        have hb2 : a.bs < wo.heap.size := hr1.sds.lt
        have HI := Lib.hid hI
        have HF2 := Lib.hid hF2
        clear hI hF2 hr hW2 hranges hr1 hO hO' hx HT
        go_upto_region 9 with (fail)
        clear hrange c11 hcx
        go_loopg [8] c.said.length (fun gn v wi => ∃ (left : List (Int × Int)) (l : List Int), gn = left.length ∧ Hid (IterIs keyE wi r a.bs (left.map saidE)) ∧ wi.ownsRow 0 3 1 v l.length (l.map (Value.int .i64)) ∧ Hid (∀ y, y ∈ l ∨ y ∈ selS x left ↔ y ∈ selS x c.said) ∧ Hid (Fr [] wo wi) ∧ Hid (∀ k ∈ v.ownBlock.toList, W2.heap.size ≤ k) ∧ l.length + left.length ≤ c.said.length ∧ W2.heap.size ≤ wi.heap.size)
        case atStart => exact ⟨c.said, [], rfl, HI, World.ownsRow_nil _ _ _ _, by intro y; simp, HF2, by intro k hk; simp [Value.ownBlock] at hk, by simp, Nat.le_refl _⟩
        case round =>
          obtain ⟨left, l, rfl, HIr, hown, HSl, HFi, HB, hlen, hsz⟩ := hrel
          rcases HIr.out.run_next (P := Try.prog) 0 with ⟨hnil, hnext⟩ | ⟨l1, k, y, l2, w', hleft, hnext, hI', hF', hsz', hentry⟩
          · have hl0 : left = [] := by simpa using hnil
            subst hl0
            have hFx : Fr [] w wr := HFw.out.trans HFi.out (by simp)
            have hrx := H.out.fr hFx
            obtain ⟨As, ds, hsv, c1⟩ := hrx.sv
            have hstx := hrx.st
            rw [hsv] at hstx
            obtain ⟨B', d', rfl⟩ := slice_form hown
            have hwho : OwnI 0 wr (.slice B' l.length d') l := ⟨hown, fun _ _ => Nat.zero_le _⟩
            have hcap : ∀ {n : Nat} {A : Option Addr} {d : Nat} {q : List Int}, OwnI n wr (.slice A q.length d) q → q.length ≤ d := fun hq => by
              obtain ⟨_, _, he, hl, _⟩ := hq.sl
              injection he with _ _ e3
              rw [e3]; exact hl
            have hsc := ssome_calls HST.out hstx.slC (hcap hstx) hwho.slC (hcap hwho)
            have hse : someB c.st l = S x := by
              rw [HSE.out]
              exact someB_set HST.out (fun y => by rw [← HSl.out y]; simp [selS])
            rw [hse] at hsc
            have HSC := Lib.hid hsc
            have HFX := Lib.hid hFx
            obtain ⟨ns, hns⟩ : ∃ n, c.st.length = n := ⟨_, rfl⟩
            obtain ⟨nl, hnl⟩ : ∃ n, l.length = n := ⟨_, rfl⟩
            rw [hns] at c1 HSC
            rw [hnl] at HSC
            simp only [hnl]
            clear hrx hsv hstx hwho hcap hsc hse hFx hns hnl hnil hown
            cases hs : S x with
            | true =>
              have hag := HIS.out hs
              rw [hag] at hR
              rw [hs] at HSC
              clear hag hs
              go_wp2_with (go_at_call 47; refine HSC.out.mono ?_; rintro e w5 ⟨rfl, hf5⟩; have HF5 := Lib.hid hf5; clear hf5 HSC)
              exact hR.out _ _ ⟨rfl, HFX.out.trans HF5.out (by simp)⟩
            | false =>
              have HT2 := Lib.hid (HTS.out hs)
              rw [hs] at HSC
              clear hs
              go_wp2_with (go_at_call 47; refine HSC.out.mono ?_; rintro e w5 ⟨rfl, hf5⟩; have HF5 := Lib.hid hf5; clear hf5 HSC)
              go_roundg (NL - (j + 1))
              case measure => omega
              case rel => exact ⟨j + 1, rfl, by go_num, by omega, (HFr.out.trans HFi.out (by simp)).trans HF5.out (by simp), HT2⟩
          · obtain ⟨q1, q2, rfl, hq1, hq2⟩ := List.map_eq_append_iff.1 hleft
            obtain ⟨⟨kk, z⟩, q3, rfl, hx, hq3⟩ := List.map_eq_cons_iff.1 hq2
            simp only [saidE, Prod.mk.injEq] at hx
            obtain ⟨rfl, rfl⟩ := hx
            have hI2 : IterIs keyE w' r a.bs ((q1 ++ q3).map saidE) := by rw [List.map_append, hq1, hq3]; exact hI'
            have hFw2 : Fr [] wo w' := HFi.out.trans hF' (fun y hy => .inr (by simp at hy; subst hy; exact hrw))
            have hown2 := row_fr hown hF' (fun k hk hk2 => by simp at hk2; subst hk2; have := HB.out _ hk; omega)
            have hgl : (q1 ++ q3).length < (q1 ++ (kk, z) :: q3).length := by simp
            have hms : l.length + (q1 ++ q3).length + 1 ≤ c.said.length := by simp at hlen ⊢; omega
            have hb1 : l.length < maxLen := by have := HSL.out; unfold maxLen; omega
            have hb3 : (l.length + 1) * 8 ≤ 140737488355328 := by have := HSL.out; omega
            have HI2 := Lib.hid hI2
            have HFw2 := Lib.hid hFw2
            have HO2 := Lib.hid hown2
            have hsw : W2.heap.size ≤ w'.heap.size := by omega
            clear hleft hq1 hq2 hq3 hI' hI2 hFw2 hown2 hF' hown hsz'
            by_cases hz : z = x
            · have bz : (z == x) = true := by simpa using hz
              have HZ := Lib.hid hz
              clear hz
              go_wp2_with (at_builtin; refine wp_append1 rfl _ _ 24 3 rfl Try.underlying24 infoZ rfl (by decide) HO2.out rfl [.int .i64 kk] rfl rfl (by simp [Value.oneCell']) hb1 hb3 ?_; intro A2 cp2 w5 hown5 hF5 hN5)
              go_roundg (q1 ++ q3).length
              case measure => exact hgl
              case rel =>
                refine ⟨q1 ++ q3, l ++ [kk], rfl, ?_, ?_, ?_, ?_, ?_, ?_, ?_⟩
                · exact HI2.out.fr hF5 (fun h => by have := HB.out _ h; have := HF2.out.size; omega) (fun h => by have := HB.out _ h; omega)
                · simpa using hown5
                · intro y
                  rw [← HSl.out y]
                  have hs1 : selS x (q1 ++ (kk, z) :: q3) = selS x q1 ++ kk :: selS x q3 := by rw [selS_append]; simp [selS, HZ.out]
                  rw [hs1, selS_append]
                  simp only [List.mem_append, List.mem_cons, List.not_mem_nil, or_false]
                  constructor
                  · rintro ((h | h) | h | h) <;> simp [h]
                  · rintro (h | h | h | h) <;> simp [h]
                · exact HFw2.out.trans hF5 (fun k hk => .inr (by have := HB.out _ hk; have := HF2.out.size; omega))
                · intro k hk
                  rcases hN5 k hk with h | h
                  · exact HB.out _ h
                  · omega
                · simp at hms ⊢; omega
                · have := hF5.size; omega
            · have bz : (z == x) = false := by simpa using hz
              have HZ := Lib.hid hz
              clear hz
              go_wp2
              go_roundg (q1 ++ q3).length
              case measure => exact hgl
              case rel =>
                refine ⟨q1 ++ q3, l, rfl, HI2, HO2.out, ?_, HFw2, HB, ?_, hsw⟩
                · intro y
                  rw [← HSl.out y]
                  have hs1 : selS x (q1 ++ (kk, z) :: q3) = selS x q1 ++ selS x q3 := by rw [selS_append]; simp [selS, HZ.out]
                  rw [hs1, selS_append]
                · omega
      · obtain rfl : j = NL := by omega
        have hn : c.agreed = (0, false) := HNO.out (fun x hx => HT.out x (by rw [List.take_of_length_le (Nat.le_of_eq HNL.out)]; exact hx))
        rw [hn] at hR
        clear hn
        go_wp2
        exact hR.out _ _ ⟨rfl, HF4.out.trans HFr.out (by simp)⟩
end
end Go.Np.Try
