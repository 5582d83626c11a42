/- slices.Collect, slices.Sorted over slices.Values; watch.Unlike. -/
import Derived.Test.YtjpdhgajpldjbaaSortC
set_option linter.unusedVariables false
set_option linter.unusedSimpArgs false
namespace Go.Np.Try
open Go.RowKit Go.Proofs Go.Lib Go.Proofs.YtjpdhgajpldjbaaW.PrintWords
theorem vs_of {w : World} {A : Option Addr} {c : Nat} {l : List Int} (h : (Kd.int .i64).C w A l.length l) : (l = [] ∧ ∃ A', A = A') ∨ ∃ b o, A = some ⟨b, o, none⟩ ∧ b < w.heap.size ∧ ∀ j, j < l.length → w.cell? ⟨b, o + j, none⟩ = some (.int .i64 (l[j]?.getD 0)) := by
  by_cases h0 : l.length = 0
  · exact .inl ⟨List.eq_nil_of_length_eq_zero h0, _, rfl⟩
  · right
    obtain ⟨ad, rfl, hc⟩ := int_at h 0 (by omega)
    have h1 : ad.add 0 = ad := by simp [Addr.add]
    rw [h1] at hc
    obtain ⟨b, o, s⟩ := ad
    obtain rfl := cell_spot hc
    refine ⟨b, o, rfl, ?_, fun j hj => ?_⟩
    · have := hc
      unfold World.cell? at this
      cases hb : w.heap[b]? with
      | none => simp [hb] at this
      | some o => exact (Array.getElem?_eq_some_iff.1 hb).1
    · obtain ⟨ad', e, hc'⟩ := int_at h j hj
      injection e with e
      rw [← e, addr_add _ _ rfl] at hc'
      simpa [List.getD_eq_getElem?_getD] using hc'
set_option maxHeartbeats 1000000 in
set_option maxRecDepth 100000 in
theorem collect_calls {w : World} (Bs : Nat) (sv : Value) (zs : List Int) (hreach : zs.length * 8 ≤ 140737488351232) (hBs : Bs < w.heap.size) (hc : w.cell? ⟨Bs, 0, none⟩ = some sv) (hI : VsInts w.heap.size w sv zs) :
    Calls Try.prog 58 #[.func (.func 60) #[] #[.pointer (some ⟨Bs, 0, none⟩)]] w fun e W' => ∃ v, e = .returned v ∧ W'.ownsRow w.heap.size 3 1 v zs.length (zs.map (Value.int .i64)) ∧ Below w.heap.size w W' := by
  have HA := Lib.hid ((callsIn_wide (n := 6)).1 (appendSeq_in Bs sv zs hreach w hBs hc hI))
  refine calls_k fun R hR => ?_
  clear hI hc
  go_enter Try.func58, Try.ntmps58
  go_wp2_with (go_at_call 66; refine HA.out.mono ?_; rintro e w1 ⟨v, rfl, h1, _, h2⟩)
  exact hR.out _ _ ⟨v, rfl, h1, h2⟩
set_option maxHeartbeats 1000000 in
set_option maxRecDepth 100000 in
theorem sorted_calls {w : World} (Bs : Nat) (sv : Value) (zs : List Int) (hreach : zs.length * 8 ≤ 140737488351232) (hBs : Bs < w.heap.size) (hc : w.cell? ⟨Bs, 0, none⟩ = some sv) (hI : VsInts w.heap.size w sv zs) :
    Calls Try.prog 42 #[.func (.func 60) #[] #[.pointer (some ⟨Bs, 0, none⟩)]] w fun e W' => ∃ v, e = .returned v ∧ W'.ownsRow w.heap.size 3 1 v zs.length ((zs.mergeSort fun x y => decide (x ≤ y)).map (Value.int .i64)) ∧ Below w.heap.size w W' := by
  have HA := Lib.hid (collect_calls Bs sv zs hreach hBs hc hI)
  refine calls_k fun R hR => ?_
  clear hI hc
  have hl : zs.length < 4611686018427387904 := by omega
  go_enter Try.func42, Try.ntmps42
  go_wp2_with (first
    | (go_at_call 58; refine HA.out.mono ?_; rintro e w1 ⟨v, rfl, h1, h2⟩; have HS := Lib.hid (sort_own h1 hl); have H2 := Lib.hid h2; clear h1 h2)
    | (go_at_call 59; refine HS.out.mono ?_; rintro e w2 ⟨rfl, h3, h4⟩))
  exact hR.out _ _ ⟨v, rfl, h3, H2.out.grown h4 H2.out.size (fun k hk => own_base h3 k hk)⟩
def unlP (l : List Int) : Bool := decide l.Nodup
set_option maxHeartbeats 2000000 in
set_option maxRecDepth 100000 in
theorem unlike_calls {w : World} {A : Option Addr} {c : Nat} {l : List Int} (h : (Kd.int .i64).C w A l.length l) (hb : l.length < 17592186043904) :
    Calls Try.prog 15 #[.slice A l.length c] w fun e w' => e = .returned (.bool (unlP l)) ∧ Below w.heap.size w w' := by
  obtain ⟨W, hW⟩ : ∃ W, W = w.alloc (.cells #[.slice A l.length c] 24) := ⟨_, rfl⟩
  have hB0 : Below w.heap.size w W := by rw [hW]; exact (Below.refl _ w).alloc (Nat.le_refl _) _
  have hsz : W.heap.size = w.heap.size + 1 := by rw [hW]; simp
  have hcell : W.cell? ⟨w.heap.size, 0, none⟩ = some (.slice A l.length c) := by
    have : W.heap[w.heap.size]? = some (.cells #[.slice A l.length c] 24) := by rw [hW]; exact heap_alloc_new w _
    simp [World.cell?, this]
  have hS : ∃ (A' : Option Addr) , A' = A := ⟨_, rfl⟩
  have HV : Hid (Calls Try.prog 43 #[.slice A l.length c] w fun e w' => e = .returned (.func (.func 60) #[] #[.pointer (some ⟨w.heap.size, 0, none⟩)]) ∧ w' = W) := by
    have := (callsIn_wide (n := 6)).1 (vs_values_in Fence.wide 6 trivial rfl A l.length c w)
    rw [← hW] at this
    exact this
  have hlen := unlike_iff l
  obtain ⟨s, hs⟩ : ∃ s, s = l.mergeSort fun x y => decide (x ≤ y) := ⟨_, rfl⟩
  have hsl : s.length = l.length := by rw [hs]; exact List.length_mergeSort l
  have HSO : Hid (Calls Try.prog 42 #[.func (.func 60) #[] #[.pointer (some ⟨w.heap.size, 0, none⟩)]] W fun e W' => ∃ v, e = .returned v ∧ W'.ownsRow W.heap.size 3 1 v s.length (s.map (Value.int .i64)) ∧ Below W.heap.size W W') := by
    rw [hsl, hs]
    rcases vs_of (c := c) h with ⟨rfl, _⟩ | ⟨b, o, rfl, hbl, hcs⟩
    · exact sorted_calls w.heap.size (.slice A 0 c) [] (by simp) (by omega) hcell (.inl ⟨A, c, rfl, rfl⟩)
    · refine sorted_calls w.heap.size (.slice (some ⟨b, o, none⟩) l.length c) l (by omega) (by omega) hcell (.inr ⟨b, o, c, rfl, by omega, fun j hj => ?_⟩)
      exact (hB0.cell (p := ⟨b, o + j, none⟩) hbl).trans (hcs j hj)
  rw [← hs] at hlen
  refine calls_k fun R hR => ?_
  have hB1 := Lib.hid hB0
  have hun : unlP l = decide ((compact s).length = l.length) := by
    unfold unlP; exact decide_eq_decide.2 hlen.symm
  rw [hun] at hR
  have hcl : (compact s).length ≤ l.length := by rw [← hsl]; exact Go.Np.compact_le s
  have hs9 : s.length ≤ 9223372036854775807 := by omega
  have HSL := Lib.hid hsl
  clear hW hcell hB0 hs hlen hun hS hsl
  obtain ⟨m, hm⟩ : ∃ m, m = (compact s).length := ⟨_, rfl⟩
  rw [← hm] at hcl hR
  have hdec : ((m : Int) == (l.length : Int)) = decide (m = l.length) := by
    by_cases he : m = l.length
    · simp [he]
    · simp [he]; omega
  rw [← hdec] at hR
  have HM := Lib.hid hm
  clear hm hdec
  go_enter Try.func15, Try.ntmps15
  go_wp2_with (first
    | (go_at_call 43; refine HV.out.mono ?_; rintro e w1 ⟨rfl, rfl⟩)
    | (go_at_call 42; refine HSO.out.mono ?_; rintro e w2 ⟨v, rfl, h1, h2⟩; have HC := Lib.hid (compact_own h1 hs9); rw [← HM.out] at HC; have H2 := Lib.hid h2; clear h1 h2)
    | (go_at_call 44; refine HC.out.mono ?_; rintro e w3 ⟨A3, c3, rfl, h3, h4, h5⟩))
  exact hR.out _ _ ⟨rfl, hB1.out.trans ((H2.out.grown h5 H2.out.size (fun k hk => own_base h3 k (h4.trans hk))).mono (by omega))⟩
end Go.Np.Try
