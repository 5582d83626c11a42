/- A text that the row of LedgerCleans needs. (Pruned by tools/prune.py.) -/
import Derived.Test.YtlllhpnpgcphcaaQLedgerCleansLedb
set_option linter.unusedVariables false
set_option linter.unusedSimpArgs false
namespace Go.Np.Try
open Go.RowKit Go.Proofs Go.Proofs.Ytlllhpnpgcphcaa.PX Go.Proofs.YtlllhpnpgcphcaaW.PrintWords
theorem SeenS.cong {m : List (Int × Value)} {a b : List Int} (h : SeenS m a) (he : ∀ x, x ∈ a ↔ x ∈ b) : SeenS m b := fun x => by
  rw [h x]
  by_cases hx : x ∈ a
  · rw [if_pos hx, if_pos ((he x).1 hx)]
  · rw [if_neg hx, if_neg (fun hb => hx ((he x).2 hb))]
def SetAt (w : World) (b : Nat) (met : List Int) : Prop := ∃ m, MapIs (fun a : Int => Value.int .i64 a) w b m ∧ SeenS m met
theorem SetAt.cong {w : World} {b : Nat} {met met' : List Int} (h : SetAt w b met) (he : ∀ x, x ∈ met ↔ x ∈ met') : SetAt w b met' := by
  obtain ⟨m, h1, h2⟩ := h
  exact ⟨m, h1, h2.cong he⟩
theorem clean_next {l : List Int} {k : Nat} (hk : k < l.length) {d : Int} (hd : l.getD k 0 = d) (h : cleanL [] (l.take k) = l.take k) (hm : d ∉ l.take k) : cleanL [] (l.take (k + 1)) = l.take (k + 1) := by
  have e : l.take (k + 1) = l.take k ++ [d] := by rw [List.take_succ_eq_append_getElem hk, ← hd]; simp [List.getD_eq_getElem?_getD, hk]
  rw [e, cleanL_append, h]
  simp only [List.nil_append, cleanL]
  rw [if_neg hm]
theorem add_block (a : Addr) (k : Nat) : (a.add k).block = a.block := by
  unfold Addr.add
  split <;> rfl
theorem take_snocI {l : List Int} {k : Nat} (hk : k < l.length) {d : Int} (hd : l.getD k 0 = d) : l.take (k + 1) = l.take k ++ [d] := by
  rw [List.take_succ_eq_append_getElem hk, ← hd]; simp [List.getD_eq_getElem?_getD, hk]
set_option maxHeartbeats 1000000 in
set_option maxRecDepth 100000 in
theorem firstmet_calls {w : World} {A : Option Addr} {c g b : Nat} {l : List Int} (hC : (Kd.int .i64).C w A l.length l) (hA : ∀ ad, A = some ad → ad.block ≠ b) (hgb : g ≠ b) (hg : w.cell? ⟨g, 0, none⟩ = some (.map (some b))) (hM : SetAt w b []) :
    Calls Try.prog 111 #[.slice A l.length c, .func (.func 94) #[] #[.pointer (some ⟨g, 0, none⟩)]] w fun e w' => ∃ x : Int, e = .returned (.int .i64 x) ∧
      ((x = -1 ∧ cleanL [] l = l) ∨ ∃ n : Nat, x = (n : Int) ∧ n < l.length ∧ cleanL [] (l.take n) = l.take n ∧ l.getD n 0 ∈ l.take n ∧ SetAt w' b (l.take n)) ∧ Fr [b] w w' := by
  have HL := Lib.hid (fun k hk => int_at hC k hk)
  have HA := Lib.hid hA
  have HG := Lib.hid hg
  have HB : Hid (∀ W, Fr [b] w W → W.cell? ⟨g, 0, none⟩ = some (.map (some b))) := fun W hW => (hW.cell (lt_cell HG.out) (by simpa using hgb)).trans HG.out
  have hmx : l.length ≤ 9223372036854775807 := hC.2.1
  have HM0 := Lib.hid hM
  refine calls_k fun R hR => ?_
  clear hC hA hg hM
  go_enter Try.func111, Try.ntmps111
  go_wp2
  go_loopw [8] (fun u wr => ∃ (k : Nat), k ≤ l.length ∧ u = .int .i64 k ∧ Hid (cleanL [] (l.take k) = l.take k) ∧ Hid (SetAt wr b (l.take k)) ∧ Hid (Fr [b] w wr)) (fun u _ => l.length - (RowKit.intOf u).toNat)
  case atStart => exact ⟨0, Nat.zero_le _, rfl, (by show _ = _; rfl), HM0, Fr.refl _ _⟩
  case round =>
    obtain ⟨k, hk, rfl, hH, HM, HF⟩ := hrel
    clear HM0
    by_cases hlt : k < l.length
    · obtain ⟨ad, hAd, hcell⟩ := HL.out k hlt
      have hne := HA.out ad hAd
      subst hAd
      have hcell := (HF.out.cell (lt_cell hcell) (by rw [add_block, List.mem_singleton]; exact hne)).trans hcell
      obtain ⟨d, hd⟩ : ∃ d, l.getD k 0 = d := ⟨_, rfl⟩
      rw [hd] at hcell
      obtain ⟨m, hm1, hm2⟩ := HM.out
      have HC := Lib.hid (met_calls (HB.out _ HF.out) hm1 hm2 d)
      have HD := Lib.hid hd
      obtain ⟨q, hq⟩ : ∃ q, decide (d ∈ l.take k) = q := ⟨_, rfl⟩
      rw [hq] at HC
      clear hd hm1 hm2 hne
      cases q with
      | true =>
        have HQ := Lib.hid (of_decide_eq_true hq)
        clear hq
        go_wp2_with (go_at_call 94; refine HC.out.mono ?_; rintro e w1 ⟨rfl, hm1, hF1⟩; have HM1 := Lib.hid hm1; have HF1 := Lib.hid (HF.out.trans hF1 (fun y hy => .inl hy)); clear hF1 hm1 HC)
        exact hR.out _ _ ⟨_, rfl, .inr ⟨k, rfl, hlt, hH.out, by rw [HD.out]; exact HQ.out, SetAt.cong HM1.out (fun z => by
          rw [List.mem_append, List.mem_singleton]
          exact ⟨fun h => h.elim id (fun e => e ▸ HQ.out), .inl⟩)⟩, HF1.out⟩
      | false =>
        have hQ := of_decide_eq_false hq
        have HN := Lib.hid (clean_next hlt HD.out hH.out hQ)
        have HT := Lib.hid (take_snocI hlt HD.out)
        clear hq hQ
        go_wp2_with (go_at_call 94; refine HC.out.mono ?_; rintro e w1 ⟨rfl, hm1, hF1⟩; have HM1 := Lib.hid hm1; have HF1 := Lib.hid (HF.out.trans hF1 (fun y hy => .inl hy)); clear hF1 hm1 HC)
        go_roundw
        case rel => exact ⟨k + 1, by omega, by go_num, HN, (by show SetAt _ _ _; rw [HT.out]; exact HM1.out), HF1⟩
        case measure => simp [RowKit.intOf]; omega
    · obtain rfl : k = l.length := by omega
      rw [List.take_length] at hH
      go_wp2
      exact hR.out _ _ ⟨_, rfl, .inl ⟨rfl, hH.out⟩, HF.out⟩
end Go.Np.Try
