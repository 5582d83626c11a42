/- What CheckTold needs. -/
import Derived.Test.YtgfiglcmhlbjjaaGreatQCheckToldCkVal
import Derived.Test.YtgfiglcmhlbjjaaGreatQCheckToldCkOp
import Derived.Test.YtgfiglcmhlbjjaaGreatQCheckToldNpA
import Derived.ScopeJumps
section
set_option linter.unusedVariables false
set_option linter.unusedSimpArgs false
namespace Go.Np.Tryz
open Go.RowKit Go.Proofs Go.Proofs.YtgfiglcmhlbjjaaGreat.PX Go.Proofs.YtgfiglcmhlbjjaaGreatW.PrintWords
def selS (v : Int) (l : List (Int × Int)) : List Int := (l.filter fun q => decide (q.2 = v)).map (·.1)
theorem selS_append (v : Int) (l k : List (Int × Int)) : selS v (l ++ k) = selS v l ++ selS v k := by unfold selS; simp
theorem someB_set {st A B : List Int} (hst : okS st) (h : ∀ x, x ∈ A ↔ x ∈ B) : someB st A = someB st B :=
  Bool.eq_iff_iff.2 ⟨some_mono hst (fun x hx => (h x).1 hx), some_mono hst (fun x hx => (h x).2 hx)⟩
theorem OwnI.at {base : Nat} {w : World} {A : Option Addr} {c : Nat} {l : List Int} (h : OwnI base w (.slice A l.length c) l) (j : Nat) (hj : j < l.length) : ∃ g, A = some ⟨g, 0, none⟩ ∧ w.cell? ⟨g, j, none⟩ = some (.int .i64 (l.getD j 0)) := by
  refine row_at h.1 j _ ?_
  simp [List.getD_eq_getElem?_getD, List.getElem?_eq_getElem hj]
theorem said_vals (l : List (Int × Int)) : (l.map saidE).map valQ = l.map (·.2) := by rw [List.map_map]; rfl
section
variable {X : Nat → Prop} {w w' w1 : World} {p : Nat} {c c' : Co} {a a' : Pl}
set_option maxHeartbeats 8000000 in
set_option maxRecDepth 100000 in
theorem c_agreed (h : CoIn X w p c a) (hst : okS c.st) (hm : c.m.length < 1000000) (hsd : c.said.length ≤ 1000) :
    Calls Tryz.prog 50 #[.pointer (some ⟨p, 0, none⟩)] w fun e w' => e = .returned (.tuple #[.int .i64 c.agreed.1, .bool c.agreed.2]) ∧ Fr [] w w' := by
  obtain ⟨L, hL⟩ : ∃ L, ((c.said.map (·.2)).mergeSort fun x y => decide (x ≤ y)) = L := ⟨_, rfl⟩
  obtain ⟨cr, hcr⟩ : ∃ r, comR c.st c.m = r := ⟨_, rfl⟩
  have HCM := Lib.hid (zCom (h.tz hst hm))
  rw [hcr] at HCM
  obtain ⟨S, hS⟩ : ∃ S : Int → Bool, S = fun v => someB c.st (selS v c.said) := ⟨_, rfl⟩
  have hA : c.agreed = if cr.2 = true then (cr.1, true) else match L.find? S with | some v => (v, true) | none => (0, false) := by
    unfold Co.agreed; rw [hcr, hL, hS]; rfl
  obtain ⟨k1, b1⟩ := cr
  simp only at HCM hA
  have c9 : w.cell? ⟨p, 9, none⟩ = some (.pointer (some ⟨a.pt, 0, none⟩)) := h.cells 9
  have hlen : L.length = c.said.length := by rw [← hL]; simp
  have H := Lib.hid h
  have HSE := Lib.hid hS
  have HLL := Lib.hid hL
  have HST := Lib.hid hst
  refine calls_k fun R hR => ?_
  clear h hcr hS hL hst
  cases b1 with
  | true =>
    rw [if_pos rfl] at hA
    rw [hA] at hR
    clear hA
    go_enter Tryz.func50, Tryz.ntmps50
    go_wp2_with (go_at_call 64; refine HCM.out.mono ?_; rintro e w1 ⟨rfl, hf1⟩; have HF1 := Lib.hid hf1; clear hf1 HCM)
    exact hR.out _ _ ⟨rfl, HF1.out⟩
  | false =>
    rw [if_neg (by simp)] at hA
    have hsome : ∀ j, j < L.length → (∀ x ∈ L.take j, S x = false) → S (L.getD j 0) = true → c.agreed = (L.getD j 0, true) := by
      intro j hj h1 h2
      rw [hA, find_none_drop h1 hj h2]
    have hnone : (∀ x ∈ L, S x = false) → c.agreed = (0, false) := by
      intro h1
      rw [hA, List.find?_eq_none.2 (fun x hx => by simp [h1 x hx])]
    have HSM := Lib.hid hsome
    have HNO := Lib.hid hnone
    clear hsome hnone hA
    obtain ⟨NL, hNL⟩ : ∃ NL, L.length = NL := ⟨_, rfl⟩
    have hN1 : NL ≤ 1000 := by omega
    have HNL := Lib.hid hNL
    have HSL : Hid (c.said.length ≤ 1000) := hsd
    clear hNL hlen hsd
    go_enter Tryz.func50, Tryz.ntmps50
    go_upto_region 4 with (go_at_call 64; refine HCM.out.mono ?_; rintro e w1 ⟨rfl, hf1⟩; have HF1 := Lib.hid hf1; clear hf1 HCM)
    have H1 := Lib.hid (H.out.fr HF1.out)
    have c11 : w1.cell? ⟨p, 11, none⟩ = some (.map (some a.bs)) := H1.out.cells 11
    have HK := Lib.hid ((callsIn_wide (n := 6)).1 (vq_keys_in Fence.wide 6 trivial rfl a.bs w1))
    obtain ⟨W3, hW3⟩ : ∃ W3, W3 = w1.alloc (.cells #[.map (some a.bs)] 72) := ⟨_, rfl⟩
    have hF3 : Fr [] w1 W3 := by rw [hW3]; exact (Fr.refl _ _).alloc _
    have hb3 : W3.heap[w1.heap.size]? = some (.cells #[.map (some a.bs)] 72 (0, 0)) := by rw [hW3]; exact heap_alloc_new _ _
    have hso := vq_sorted w1.heap.size a.bs (c.said.map saidE) (fun q hq => by obtain ⟨u, _, rfl⟩ := List.mem_map.1 hq; rfl) (by have := HSL.out; simp; omega) (lt_cell (cell_of hb3 0)) (cell_of hb3 0) (H1.out.fr hF3).sds
    rw [said_vals, HLL.out] at hso
    have HSo := Lib.hid hso
    rw [← hW3] at HK
    have HF3 := Lib.hid hF3
    clear hF3 hb3 hW3 hso c9
    go_upto_region 5 with (first
      | (go_at_call 66; refine HK.out.mono ?_; rintro e w3 ⟨rfl, rfl⟩)
      | (go_at_call 65; refine HSo.out.mono ?_; rintro e w4 ⟨v, rfl, h4, hf4⟩; obtain ⟨A, d, rfl⟩ := h4.formN HNL.out; have H4 := Lib.hid h4; have HF4 := Lib.hid (HF1.out.trans (HF3.out.trans hf4 (by simp)) (by simp)); clear h4 hf4 HSo HK))
    clear c11
    go_loopg [30] NL (fun gn u wr => ∃ j : Nat, gn = NL - j ∧ u = .int .i64 (j : Int) ∧ j ≤ NL ∧ Hid (Fr [] w4 wr) ∧ Hid (∀ x ∈ L.take j, S x = false))
    case atStart => exact ⟨0, rfl, rfl, Nat.zero_le _, Fr.refl _ _, by intro x hx; simp at hx⟩
    case round =>
      obtain ⟨j, rfl, rfl, hj, HFr, HT⟩ := hrel
      by_cases hlt : j < NL
      · obtain ⟨wo, hwo⟩ : ∃ wo, wo = wr := ⟨_, rfl⟩
        subst hwo
        have hO := H4.out.fr HFr.out (by simp)
        have hO' := hO
        rw [← HNL.out] at hO'
        obtain ⟨gA, hgA, hcx⟩ := hO'.at j (by rw [HNL.out]; exact hlt)
        subst hgA
        obtain ⟨x, hx⟩ : ∃ x, L.getD j 0 = x := ⟨_, rfl⟩
        have HXL := Lib.hid hx
        have HIS := HSM.out j (by rw [HNL.out]; exact hlt) HT.out
        rw [hx] at hcx HIS
        have HIS := Lib.hid HIS
        have HTS : Hid (S x = false → ∀ y ∈ L.take (j + 1), S y = false) := fun hs y hy => by
          rcases take_mem_succ (by rw [HNL.out]; exact hlt) hy with h1 | h1
          · exact HT.out y h1
          · rw [h1, HXL.out]; exact hs
        have HFw : Hid (Fr [] w wo) := HF4.out.trans HFr.out (by simp)
        have hr1 := H.out.fr HFw.out
        have c11 : wo.cell? ⟨p, 11, none⟩ = some (.map (some a.bs)) := hr1.cells 11
        obtain ⟨ob, hranges, hI⟩ := IterIs.begin (P := Tryz.prog) (k := 3) hr1.sds
        have hrange := hranges 72 3 Tryz.underlying72
        have hF2 : Fr [] wo (wo.alloc ob) := (Fr.refl _ _).alloc _
        obtain ⟨r, hr⟩ : ∃ r, r = wo.heap.size := ⟨_, rfl⟩
        obtain ⟨W2, hW2⟩ : ∃ W2, W2 = wo.alloc ob := ⟨_, rfl⟩
        rw [← hr, ← hW2] at hrange hI
        rw [← hW2] at hF2
        have hrw : wo.heap.size ≤ r := Nat.le_of_eq hr.symm
        have hr2 : r < W2.heap.size := hI.lt.2
        have hb2 : a.bs < wo.heap.size := hr1.sds.lt
        have HI := Lib.hid hI
        have HF2 := Lib.hid hF2
        clear hI hF2 hr hW2 hranges hr1 hO hO' hx HT
        go_upto_region 9 with (fail)
        clear hrange c11 hcx
        go_loopg [8] c.said.length (fun gn v wi => ∃ (left : List (Int × Int)) (l : List Int), gn = left.length ∧ Hid (IterIs keyE wi r a.bs (left.map saidE)) ∧ wi.ownsRow 0 3 1 v l.length (l.map (Value.int .i64)) ∧ Hid (∀ y, y ∈ l ∨ y ∈ selS x left ↔ y ∈ selS x c.said) ∧ Hid (Fr [] wo wi) ∧ Hid (∀ k ∈ v.ownBlock.toList, W2.heap.size ≤ k) ∧ l.length + left.length ≤ c.said.length ∧ W2.heap.size ≤ wi.heap.size)
        case atStart => exact ⟨c.said, [], rfl, HI, World.ownsRow_nil _ _ _ _, by intro y; simp, HF2, by intro k hk; simp [Value.ownBlock] at hk, by simp, Nat.le_refl _⟩
        case round =>
          obtain ⟨left, l, rfl, HIr, hown, HSl, HFi, HB, hlen, hsz⟩ := hrel
          rcases HIr.out.run_next (P := Tryz.prog) 0 with ⟨hnil, hnext⟩ | ⟨l1, k, y, l2, w', hleft, hnext, hI', hF', hsz', hentry⟩
          · have hl0 : left = [] := by simpa using hnil
            subst hl0
            have hFx : Fr [] w wr := HFw.out.trans HFi.out (by simp)
            have hrx := H.out.fr hFx
            obtain ⟨As, ds, hsv, c1⟩ := hrx.sv
            have hstx := hrx.st
            rw [hsv] at hstx
            obtain ⟨B', d', rfl⟩ := slice_form hown
            have hwho : OwnI 0 wr (.slice B' l.length d') l := ⟨hown, fun _ _ => Nat.zero_le _⟩
            have hcap : ∀ {n : Nat} {A : Option Addr} {d : Nat} {q : List Int}, OwnI n wr (.slice A q.length d) q → q.length ≤ d := fun hq => by
              obtain ⟨_, _, he, hl, _⟩ := hq.sl
              injection he with _ _ e3
              rw [e3]; exact hl
            have hsc := ssome_calls HST.out hstx.slC (hcap hstx) hwho.slC (hcap hwho)
            have hse : someB c.st l = S x := by
              rw [HSE.out]
              exact someB_set HST.out (fun y => by rw [← HSl.out y]; simp [selS])
            rw [hse] at hsc
            have HSC := Lib.hid hsc
            have HFX := Lib.hid hFx
            obtain ⟨ns, hns⟩ : ∃ n, c.st.length = n := ⟨_, rfl⟩
            obtain ⟨nl, hnl⟩ : ∃ n, l.length = n := ⟨_, rfl⟩
            rw [hns] at c1 HSC
            rw [hnl] at HSC
            simp only [hnl]
            clear hrx hsv hstx hwho hcap hsc hse hFx hns hnl hnil hown
            cases hs : S x with
            | true =>
              have hag := HIS.out hs
              rw [hag] at hR
              rw [hs] at HSC
              clear hag hs
              go_wp2_with (go_at_call 67; refine HSC.out.mono ?_; rintro e w5 ⟨rfl, hf5⟩; have HF5 := Lib.hid hf5; clear hf5 HSC)
              exact hR.out _ _ ⟨rfl, HFX.out.trans HF5.out (by simp)⟩
            | false =>
              have HT2 := Lib.hid (HTS.out hs)
              rw [hs] at HSC
              clear hs
              go_wp2_with (go_at_call 67; refine HSC.out.mono ?_; rintro e w5 ⟨rfl, hf5⟩; have HF5 := Lib.hid hf5; clear hf5 HSC)
              go_roundg (NL - (j + 1))
              case measure => omega
              case rel => exact ⟨j + 1, rfl, by go_num, by omega, (HFr.out.trans HFi.out (by simp)).trans HF5.out (by simp), HT2⟩
          · obtain ⟨q1, q2, rfl, hq1, hq2⟩ := List.map_eq_append_iff.1 hleft
            obtain ⟨⟨kk, z⟩, q3, rfl, hx, hq3⟩ := List.map_eq_cons_iff.1 hq2
            simp only [saidE, Prod.mk.injEq] at hx
            obtain ⟨rfl, rfl⟩ := hx
            have hI2 : IterIs keyE w' r a.bs ((q1 ++ q3).map saidE) := by rw [List.map_append, hq1, hq3]; exact hI'
            have hFw2 : Fr [] wo w' := HFi.out.trans hF' (fun y hy => .inr (by simp at hy; subst hy; exact hrw))
            have hown2 := row_fr hown hF' (fun k hk hk2 => by simp at hk2; subst hk2; have := HB.out _ hk; omega)
            have hgl : (q1 ++ q3).length < (q1 ++ (kk, z) :: q3).length := by simp
            have hms : l.length + (q1 ++ q3).length + 1 ≤ c.said.length := by simp at hlen ⊢; omega
            have hb1 : l.length < maxLen := by have := HSL.out; unfold maxLen; omega
            have hb3 : (l.length + 1) * 8 ≤ 140737488355328 := by have := HSL.out; omega
            have HI2 := Lib.hid hI2
            have HFw2 := Lib.hid hFw2
            have HO2 := Lib.hid hown2
            have hsw : W2.heap.size ≤ w'.heap.size := by omega
            clear hleft hq1 hq2 hq3 hI' hI2 hFw2 hown2 hF' hown hsz'
            by_cases hz : z = x
            · have bz : (z == x) = true := by simpa using hz
              have HZ := Lib.hid hz
              clear hz
              go_wp2_with (at_builtin; refine wp_append1 rfl _ _ 22 3 rfl Tryz.underlying22 infoZ rfl (by decide) HO2.out rfl [.int .i64 kk] rfl rfl (by simp [Value.oneCell']) hb1 hb3 ?_; intro A2 cp2 w5 hown5 hF5 hN5)
              go_roundg (q1 ++ q3).length
              case measure => exact hgl
              case rel =>
                refine ⟨q1 ++ q3, l ++ [kk], rfl, ?_, ?_, ?_, ?_, ?_, ?_, ?_⟩
                · exact HI2.out.fr hF5 (fun h => by have := HB.out _ h; have := HF2.out.size; omega) (fun h => by have := HB.out _ h; omega)
                · simpa using hown5
                · intro y
                  rw [← HSl.out y]
                  have hs1 : selS x (q1 ++ (kk, z) :: q3) = selS x q1 ++ kk :: selS x q3 := by rw [selS_append]; simp [selS, HZ.out]
                  rw [hs1, selS_append]
                  simp only [List.mem_append, List.mem_cons, List.not_mem_nil, or_false]
                  constructor
                  · rintro ((h | h) | h | h) <;> simp [h]
                  · rintro (h | h | h | h) <;> simp [h]
                · exact HFw2.out.trans hF5 (fun k hk => .inr (by have := HB.out _ hk; have := HF2.out.size; omega))
                · intro k hk
                  rcases hN5 k hk with h | h
                  · exact HB.out _ h
                  · omega
                · simp at hms ⊢; omega
                · have := hF5.size; omega
            · have bz : (z == x) = false := by simpa using hz
              have HZ := Lib.hid hz
              clear hz
              go_wp2
              go_roundg (q1 ++ q3).length
              case measure => exact hgl
              case rel =>
                refine ⟨q1 ++ q3, l, rfl, HI2, HO2.out, ?_, HFw2, HB, ?_, hsw⟩
                · intro y
                  rw [← HSl.out y]
                  have hs1 : selS x (q1 ++ (kk, z) :: q3) = selS x q1 ++ selS x q3 := by rw [selS_append]; simp [selS, HZ.out]
                  rw [hs1, selS_append]
                · omega
      · obtain rfl : j = NL := by omega
        have hn : c.agreed = (0, false) := HNO.out (fun x hx => HT.out x (by rw [List.take_of_length_le (Nat.le_of_eq HNL.out)]; exact hx))
        rw [hn] at hR
        clear hn
        go_wp2
        exact hR.out _ _ ⟨rfl, HF4.out.trans HFr.out (by simp)⟩
end
end Go.Np.Tryz
end
section
set_option linter.unusedVariables false
set_option linter.unusedSimpArgs false
namespace Go.Np.Tryz
open Go.RowKit Go.Proofs Go.Shelf Go.Lib Go.Proofs.YtgfiglcmhlbjjaaGreat.PX Go.Proofs.YtgfiglcmhlbjjaaGreatW.PrintWords
theorem contains_calls {w : World} {A : Option Addr} {d : Nat} {l : List Int} (h : (Kd.int .i64).C w A l.length l) (x : Int) :
    Calls Tryz.prog 49 #[.slice A l.length d, .int .i64 x] w fun e w' => e = .returned (.bool (l.contains x)) ∧ w' = w := by
  by_cases hl : l.length = 0
  · obtain rfl := List.eq_nil_of_length_eq_zero hl
    exact Tryz.slices_Contains_int_empty A d x w
  · cases A with
    | none => obtain ⟨ad, e, _⟩ := int_at h 0 (by omega); cases e
    | some ad =>
      have hs : ad.spot = none := by
        obtain ⟨ad', e, hc⟩ := int_at h 0 (by omega)
        injection e with e
        subst e
        have h0 : ad.add 0 = ad := by simp [Addr.add]
        rw [h0] at hc
        obtain ⟨b, o, s⟩ := ad
        exact cell_spot hc
      obtain ⟨b, o, s⟩ := ad
      simp only at hs
      subst hs
      refine (Tryz.slices_Contains_int b o l.length d l x w (Nat.le_refl _) h.2.1 (fun j hj => ?_)).mono ?_
      · obtain ⟨ad', e, hc⟩ := int_at h j hj
        injection e with e
        rw [← e, addr_add _ _ rfl] at hc
        exact hc
      · rintro e w' ⟨rfl, rfl⟩
        rw [List.take_length]
        exact ⟨rfl, rfl⟩
set_option maxHeartbeats 2000000 in
set_option maxRecDepth 100000 in
theorem knows_calls {w : World} {A : Option Addr} {d bx : Nat} {l : List Int} (h : (Kd.int .i64).C w A l.length l) (hc : w.cell? ⟨bx, 0, none⟩ = some (.slice A l.length d)) (v : Int) :
    Calls Tryz.prog 48 #[.int .i64 v, .pointer (some ⟨bx, 0, none⟩)] w fun e w' => e = .returned (.bool (knowsB l v)) ∧ w' = w := by
  have HC := Lib.hid (contains_calls (d := d) h v)
  unfold knowsB
  obtain ⟨n, hn⟩ : ∃ n, l.length = n := ⟨_, rfl⟩
  obtain ⟨B, hB⟩ : ∃ B, l.contains v = B := ⟨_, rfl⟩
  rw [hn, hB] at HC
  rw [hn] at hc
  rw [hB]
  refine calls_k fun R hR => ?_
  clear h hn hB
  by_cases h0 : v = 0
  · subst h0
    go_enter Tryz.func48, Tryz.ntmps48
    go_wp2
    exact hR.out _ _ ⟨by simp, rfl⟩
  · have b0 : (v == 0) = false := by simpa using h0
    have hk : (decide (v = 0) || B) = B := by simp [h0]
    rw [hk] at hR
    clear hk
    go_enter Tryz.func48, Tryz.ntmps48
    go_wp2_with (go_at_call 49; refine HC.out.mono ?_; rintro e w1 ⟨rfl, rfl⟩; clear HC)
    exact hR.out _ _ ⟨rfl, rfl⟩
end Go.Np.Tryz
end
section
set_option linter.unusedVariables false
set_option linter.unusedSimpArgs false
namespace Go.Np.Tryz
open Go.RowKit Go.Proofs.YtgfiglcmhlbjjaaGreat.PX Go.Proofs.YtgfiglcmhlbjjaaGreatW.PrintWords
theorem pigeon : ∀ (N : Nat) (l : List Nat), l.Nodup → (∀ x ∈ l, x < N) → l.length ≤ N := by
  intro N
  induction N with
  | zero =>
    intro l _ h
    cases l with
    | nil => simp
    | cons x l => exact absurd (h x (by simp)) (by omega)
  | succ N ih =>
    intro l hn h
    have h1 := ih (l.erase N) (hn.erase N) (fun x hx => by
      have h2 := h x (List.mem_of_mem_erase hx)
      have h3 : x ≠ N := fun e => by subst e; exact (hn.not_mem_erase) hx
      omega)
    have h2 : l.length ≤ (l.erase N).length + 1 := by
      by_cases hm : N ∈ l
      · rw [List.length_erase_of_mem hm]; omega
      · rw [List.erase_of_not_mem hm]; omega
    omega
theorem Good.len {n : Nat} {m : List S41} (h : Good n m) (hn : n ≤ 7) : m.length ≤ 14014 := by
  obtain ⟨l, rfl, hi⟩ := h
  rw [List.length_map]
  have h1 : ((l.map fun q => q.1.1).map fun k : Int × Int × Int => ((k.1 - 4) * 7007 + k.2.1 * 7 + k.2.2).toNat).Nodup := by
    rw [List.nodup_iff_pairwise_ne, List.pairwise_map]
    have h2 := hi.nd
    rw [List.nodup_iff_pairwise_ne] at h2
    refine List.Pairwise.imp_of_mem ?_ h2
    intro a b ha hb hne he
    obtain ⟨q, hq, rfl⟩ := List.mem_map.1 ha
    obtain ⟨u, hu, rfl⟩ := List.mem_map.1 hb
    have p1 := hi.ok q hq
    have p2 := hi.ok u hu
    obtain ⟨⟨⟨K, V, F⟩, hw⟩, x⟩ := q
    obtain ⟨⟨⟨K', V', F'⟩, hw'⟩, x'⟩ := u
    simp only at p1 p2 he hne
    apply hne
    have hn' : (n : Int) ≤ 7 := by omega
    have e1 : K = K' := by omega
    have e2 : V = V' := by omega
    have e3 : F = F' := by omega
    rw [e1, e2, e3]
  have h3 := pigeon 14014 _ h1 (fun x hx => by
    obtain ⟨k, hk, rfl⟩ := List.mem_map.1 hx
    obtain ⟨q, hq, rfl⟩ := List.mem_map.1 hk
    have p1 := hi.ok q hq
    omega)
  simpa using h3
namespace Co
variable {c c' : Co} {known : List Int}
theorem cast_out (c : Co) (k x : Int) : (c.cast k x).out.length ≤ c.out.length + 1 := by
  unfold Co.cast; split <;> simp [Co.send]
theorem enter_out (c : Co) (v : Int) : (c.enter v).out.length ≤ c.out.length + 1 := by
  unfold Co.enter; split <;> simp [Co.send]
theorem next_out (c : Co) (known : List Int) : (c.next known).1.out.length ≤ c.out.length + 1 := by
  unfold Co.next
  repeat' split
  all_goals first
    | exact Nat.le_succ _
    | (exact enter_out _ _)
    | (exact cast_out _ _ _)
    | (simp [Co.decide1, Co.rest, Co.send]; done)
    | (refine Nat.le_trans (cast_out _ _ _) ?_; split <;> exact Nat.le_refl _)
theorem Ok.mu_le (h : Ok c) : c.mu ≤ 10014018 := by
  have := h.view
  have := h.step
  unfold Co.mu
  omega
structure Wf (c : Co) : Prop where
  props : ∀ q ∈ c.props, wf64 q.2.2
  valid : wf64 c.valid.2
  said : c.said.length ≤ 1000
theorem wf_m1 : wf64 (-1) := by decide
theorem Wf.cast (h : Wf c) (k x : Int) : Wf (c.cast k x) := by
  unfold Co.cast; split
  · exact ⟨h.props, h.valid, h.said⟩
  · exact h
theorem Wf.toS (h : Wf c) (s : Int) : Wf (c.toS s) := ⟨h.props, h.valid, h.said⟩
theorem aput_sub {α : Type} (m : List (Int × α)) (k : Int) (x : α) : ∀ q ∈ aput m k x, q ∈ m ∨ q = (k, x) := by
  induction m with
  | nil => intro q hq; simp [aput] at hq; exact .inr hq
  | cons a m ih =>
    intro q hq
    obtain ⟨u, v⟩ := a
    by_cases h : u = k
    · simp [aput, h] at hq
      rcases hq with hq | hq
      · exact .inr hq
      · exact .inl (by simp [hq])
    · simp [aput, h] at hq
      rcases hq with hq | hq
      · exact .inl (by simp [hq])
      · rcases ih q hq with h1 | h1
        · exact .inl (by simp [h1])
        · exact .inr h1
theorem Wf.enter (h : Wf c) (v : Int) : Wf (c.enter v) := by
  unfold Co.enter
  split
  · exact ⟨h.props, h.valid, h.said⟩
  · refine ⟨fun q hq => ?_, h.valid, h.said⟩
    rcases aput_sub _ _ _ q hq with h1 | h1
    · exact h.props q h1
    · rw [h1]
      unfold Co.bid
      split
      · exact h.valid
      · exact wf_m1
theorem Wf.decide1 (c : Co) (v : Int) : Wf (c.decide1 v) := ⟨fun q hq => by simp [Co.decide1, Co.rest] at hq, wf_m1, by simp [Co.decide1, Co.rest]⟩
theorem Wf.next (h : Wf c) (ho : Ok c) (known : List Int) : Wf (c.next known).1 := by
  have hvw : wf64 c.view := wfI (by have := ho.view; omega) (by have := ho.view; omega)
  unfold Co.next
  by_cases h1 : 1000 < c.idx
  · rw [if_pos h1]; exact h
  rw [if_neg h1]
  by_cases h2 : c.agreed.2 = true
  · rw [if_pos h2]; exact Wf.decide1 _ _
  rw [if_neg h2]
  by_cases h3 : c.step = 0
  · rw [if_pos h3]; exact h
  rw [if_neg h3]
  by_cases h4 : c.view < ahR c.st c.m c.view
  · rw [if_pos h4]; exact h.enter _
  rw [if_neg h4]
  by_cases h5 : c.step = 1
  · rw [if_pos h5]
    split
    · exact h
    · split
      · exact h
      · exact (h.cast _ _).toS _
  rw [if_neg h5]
  split
  · exact h
  split
  · dsimp only
    split
    · exact (h.cast _ _).toS _
    · refine Wf.toS (Wf.cast ?_ _ _) _
      exact ⟨h.props, hvw, h.said⟩
  split
  · exact ⟨h.props, hvw, h.said⟩
  · exact h
end Co
end Go.Np.Tryz
end
section
namespace Go.Np
open Go.RowKit
theorem least {J : Nat → Prop} : ∀ n, J n → ∃ k, J k ∧ ∀ m, m < k → ¬ J m := by
  intro n
  induction n using Nat.strongRecOn with
  | _ n ih =>
    intro h
    by_cases hm : ∃ m, m < n ∧ J m
    · obtain ⟨m, h1, h2⟩ := hm
      exact ih m h1 h2
    · exact ⟨n, h, fun m h1 h2 => hm ⟨m, h1, h2⟩⟩
open Classical in
noncomputable def leastN (J : Nat → Prop) : Nat := if h : ∃ n, J n then Classical.choose (least h.choose h.choose_spec) else 0
theorem leastN_spec {J : Nat → Prop} {n : Nat} (h : J n) : J (leastN J) ∧ ∀ m, J m → leastN J ≤ m := by
  have h' : ∃ n, J n := ⟨n, h⟩
  have hs := Classical.choose_spec (least h'.choose h'.choose_spec)
  unfold leastN
  rw [dif_pos h']
  exact ⟨hs.1, fun m hm => Nat.le_of_not_lt (fun hl => hs.2 m hl hm)⟩
section
variable {P : Program} {a : Act} {w : World} {Q : Exit → Act → World → Prop}
theorem wp_scope_jumpsG {c rest : Code} (l : Nat) (J : Nat → Act → World → Prop) (hf : findLabel c l = some rest)
    (first : c.wp P (Exit.jump l (fun a w => ∃ n, J n a w) Q) a w)
    (pass : ∀ n a w, J n a w → rest.wp P (Exit.jump l (fun a' w' => ∃ m, m < n ∧ J m a' w') Q) a w) : (Code.scope c).wp P Q a w := by
  refine wp_scope_jumps l (fun a w => ∃ n, J n a w) (fun a w => leastN (fun n => J n a w)) hf first ?_
  rintro a w ⟨n, hn⟩
  obtain ⟨h1, h2⟩ := leastN_spec (J := fun n => J n a w) hn
  refine Code.wp_mono ?_ (pass _ a w h1)
  intro e a' w' he
  cases e with
  | goto l' =>
    obtain ⟨e1, m, hm, hj⟩ := he
    exact ⟨e1, ⟨m, hj⟩, Nat.lt_of_le_of_lt ((leastN_spec (J := fun n => J n a' w') hj).2 m hj) hm⟩
  | normal => exact he
  | exit id => exact he
  | ret => exact he
  | panic ch => exact he
  | outgrown => exact he
theorem wp_scope_jumpsG3 {c body : Code} (l : Nat) (J : Nat → Act → World → Prop) (hf : findLabel c l = some (Code.skip.seq body))
    (pass : ∀ n a w, J n a w → body.wp P (Exit.jump l (fun a' w' => ∃ m, m < n ∧ J m a' w') Q) a w)
    (first : (∀ n a w, J n a w → body.wp P (Exit.jump l (fun a' w' => ∃ m, J m a' w') Q) a w) → c.wp P (Exit.jump l (fun a w => ∃ n, J n a w) Q) a w) : (Code.scope c).wp P Q a w := by
  refine wp_scope_jumpsG l J hf (first ?_) (fun n a w hn => wp_seq (wp_skip (pass n a w hn)))
  intro n a w hn
  refine Code.wp_mono ?_ (pass n a w hn)
  intro e a' w' he
  cases e with
  | goto l' =>
    obtain ⟨e1, m, hm, hj⟩ := he
    exact ⟨e1, m, hj⟩
  | normal => exact he
  | exit id => exact he
  | ret => exact he
  | panic ch => exact he
  | outgrown => exact he
end
end Go.Np
end
