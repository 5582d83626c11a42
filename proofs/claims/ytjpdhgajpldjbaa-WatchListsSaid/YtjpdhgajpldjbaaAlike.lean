/- watch.Longest, watch.Alike: contracts. -/
import Derived.Test.YtjpdhgajpldjbaaBegins
import Derived.Test.YtjpdhgajpldjbaaUnlike
set_option linter.unusedVariables false
set_option linter.unusedSimpArgs false
namespace Go.Np
def lonStep (o l : List Int) : List Int := if o.length < l.length then l else o
def longP (L : List (List Int)) : List Int := L.foldl lonStep []
def alikeP (L : List (List Int)) : Bool := L.all fun l => begP l (longP L)
theorem take_snocL (L : List (List Int)) (k : Nat) (h : k < L.length) : L.take (k + 1) = L.take k ++ [L.getD k []] := by
  rw [List.take_succ_eq_append_getElem h]; simp [List.getD_eq_getElem?_getD, h]
theorem longP_snoc (L : List (List Int)) (l : List Int) : longP (L ++ [l]) = lonStep (longP L) l := by simp [longP]
end Go.Np
namespace Go.Np.Try
open Go.RowKit Go.Proofs Go.Proofs.YtjpdhgajpldjbaaW.PrintWords
theorem below_dn {B : Nat} {w W : World} (h : Below B w W) (n : Nat) : Below B w (W.drewN n) := ⟨h.os, h.tape, h.output, h.size, h.block⟩
abbrev KdL : Kd (List Int) := Kd.slice 3 (Kd.int .i64)
theorem lists_at {w : World} {A : Option Addr} {L : List (List Int)} (h : KdL.C w A L.length L) (k : Nat) (hk : k < L.length) :
    ∃ ad, A = some ad ∧ ∃ B c, w.cell? (ad.add k) = some (.slice B (L.getD k []).length c) ∧ (L.getD k []).length ≤ c ∧ (Kd.int .i64).C w B (L.getD k []).length (L.getD k []) := by
  obtain ⟨ad, cs, e, hl, ⟨B, c, rfl, h1, h2⟩, hc⟩ := ReadsRow.get_ h [] (k : Int) (by omega) (by omega)
  refine ⟨ad, e, B, c, ?_, h1, h2⟩
  have := hc 0 _ rfl
  simpa [KdL, Kd.slice] using this
set_option maxHeartbeats 1000000 in
set_option maxRecDepth 100000 in
theorem longest_calls {w : World} {A : Option Addr} {c : Nat} {L : List (List Int)} (h : KdL.C w A L.length L) (hb : (longP L).length < 17592186044416) :
    Calls Try.prog 20 #[.slice A L.length c] w fun e w' => ∃ v, e = .returned v ∧ Kd.R (Kd.int .i64) 3 w' w.heap.size (fun _ => True) v (longP L) ∧ Below w.heap.size w w' := by
  have HL := Lib.hid (fun k hk => lists_at h k hk)
  have hmx : L.length ≤ 9223372036854775807 := h.2.1
  refine calls_k fun R hR => ?_
  clear h
  go_enter Try.func20, Try.ntmps20
  go_wp2
  go_loopw [3, 8] (fun v u wr => ∃ (k : Nat) (B : Option Addr) (nn cp : Nat), k ≤ L.length ∧ u = .int .i64 k ∧ v = .slice B nn cp ∧ Hid (nn = (longP (L.take k)).length ∧ (Kd.int .i64).C w B (longP (L.take k)).length (longP (L.take k))) ∧ nn ≤ 9223372036854775807 ∧ ∃ q, wr = w.drewN q) (fun _ u _ => L.length - (RowKit.intOf u).toNat)
  case atStart => exact ⟨0, none, 0, 0, Nat.zero_le _, rfl, rfl, ⟨rfl, ⟨rfl, Nat.zero_le _, fun h => absurd h (Nat.lt_irrefl 0)⟩⟩, Nat.zero_le _, 0, rfl⟩
  case round =>
    obtain ⟨k, B, nn, cp, hk, rfl, rfl, hH, hnn, q, rfl⟩ := hrel
    by_cases hlt : k < L.length
    · obtain ⟨ad, rfl, B2, c2, hcell, hc2, hC2⟩ := HL.out k hlt
      have htk := take_snocL L k hlt
      obtain ⟨l, hl⟩ : ∃ l, l = L.getD k [] := ⟨_, rfl⟩
      rw [← hl] at hcell hc2 hC2 htk
      have hsn : longP (L.take (k + 1)) = lonStep (longP (L.take k)) l := by rw [htk, longP_snoc]
      have hmx2 := hC2.2.1
      obtain ⟨m, hm⟩ : ∃ m, m = longP (L.take k) := ⟨_, rfl⟩
      rw [← hm] at hH hsn
      obtain ⟨h1, h2⟩ := hH.out
      by_cases hgt : nn < l.length
      · have hst : lonStep m l = l := if_pos (by omega)
        have HN : Hid (l.length = (longP (L.take (k + 1))).length ∧ (Kd.int .i64).C w B2 (longP (L.take (k + 1))).length (longP (L.take (k + 1)))) := by rw [hsn, hst]; exact ⟨rfl, hC2⟩
        clear hl htk hm hH h1 h2 hsn hst hC2
        go_wp2
        go_roundw
        case rel => exact ⟨k + 1, _, _, _, by omega, by go_num, rfl, HN, hmx2, by first | exact ⟨_, rfl⟩ | exact drew2 _ _ _⟩
        case measure => simp [RowKit.intOf]; omega
      · have hst : lonStep m l = m := if_neg (by omega)
        have HN : Hid (nn = (longP (L.take (k + 1))).length ∧ (Kd.int .i64).C w B (longP (L.take (k + 1))).length (longP (L.take (k + 1)))) := by rw [hsn, hst]; exact ⟨h1, h2⟩
        clear hl htk hm hH h1 h2 hsn hst hC2
        go_wp2
        go_roundw
        case rel => exact ⟨k + 1, _, _, _, by omega, by go_num, rfl, HN, hnn, by first | exact ⟨_, rfl⟩ | exact drew2 _ _ _⟩
        case measure => simp [RowKit.intOf]; omega
    · obtain rfl : k = L.length := by omega
      rw [List.take_length] at hH
      obtain ⟨rfl, h2⟩ := hH.out
      have HC := Lib.hid (fun n => clone_int (w := w.drewN n) (c := cp) (Kd.C_drewN h2 n) hb)
      clear hH h2
      obtain ⟨m, hm⟩ : ∃ m, m = longP L := ⟨_, rfl⟩
      rw [← hm] at HC hR
      have HM := Lib.hid hm
      rw [← hm] at hnn ⊢
      clear hm
      go_wp2_with (go_at_call 47; refine (HC.out _).mono ?_; rintro e w1 ⟨v, rfl, h1, h2⟩)
      exact hR.out _ _ ⟨v, rfl, h1, ⟨h2.os, h2.tape, h2.output, h2.size, h2.block⟩⟩
set_option maxHeartbeats 1000000 in
set_option maxRecDepth 100000 in
theorem alikeC_calls {w : World} {A B : Option Addr} {c d bx : Nat} {l m : List Int} (hbx : w.cell? ⟨bx, 0, none⟩ = some (.slice B m.length d)) (hl : (Kd.int .i64).C w A l.length l) (hm : (Kd.int .i64).C w B m.length m) (hd : m.length ≤ d) :
    Calls Try.prog 46 #[.slice A l.length c, .pointer (some ⟨bx, 0, none⟩)] w fun e w' => e = .returned (.bool (!begP l m)) ∧ ∃ n, w' = w.drewN n := by
  have HB := Lib.hid (begins_calls (c0 := c) hl hm hd)
  refine calls_k fun R hR => ?_
  clear hl hm
  go_enter Try.func46, Try.ntmps46
  go_wp2_with (go_at_call 13; refine HB.out.mono ?_; rintro e w1 ⟨rfl, n, rfl⟩)
  exact hR.out _ _ ⟨rfl, _, rfl⟩
set_option maxHeartbeats 1000000 in
set_option maxRecDepth 100000 in
theorem index_calls {w : World} {A B : Option Addr} {c d bx : Nat} {L : List (List Int)} {m : List Int} (h : KdL.C w A L.length L) (hbx : w.cell? ⟨bx, 0, none⟩ = some (.slice B m.length d)) (hm : (Kd.int .i64).C w B m.length m) (hd : m.length ≤ d) :
    Calls Try.prog 61 #[.slice A L.length c, .func (.func 46) #[] #[.pointer (some ⟨bx, 0, none⟩)]] w fun e w' => ∃ x : Int, e = .returned (.int .i64 x) ∧ decide (0 ≤ x) = !(L.all fun l => begP l m) ∧ ∃ n, w' = w.drewN n := by
  have HL := Lib.hid (fun k hk => lists_at h k hk)
  have hmx : L.length ≤ 9223372036854775807 := h.2.1
  have HC : Hid (∀ (n : Nat) (A2 : Option Addr) (c2 : Nat) (l : List Int), (Kd.int .i64).C w A2 l.length l → Calls Try.prog 46 #[.slice A2 l.length c2, .pointer (some ⟨bx, 0, none⟩)] (w.drewN n) fun e w' => e = .returned (.bool (!begP l m)) ∧ ∃ n, w' = w.drewN n) := by
    intro n A2 c2 l hl
    refine (alikeC_calls (w := w.drewN n) (c := c2) hbx (Kd.C_drewN hl n) (Kd.C_drewN hm n) hd).mono ?_
    rintro e w' ⟨rfl, k, rfl⟩
    exact ⟨rfl, drew2 _ _ _⟩
  refine calls_k fun R hR => ?_
  clear h hm
  go_enter Try.func61, Try.ntmps61
  go_wp2
  go_loopw [8] (fun u wr => ∃ (k : Nat), k ≤ L.length ∧ u = .int .i64 k ∧ Hid (((L.take k).all fun l => begP l m) = true) ∧ ∃ q, wr = w.drewN q) (fun u _ => L.length - (RowKit.intOf u).toNat)
  case atStart => exact ⟨0, Nat.zero_le _, rfl, rfl, 0, rfl⟩
  case round =>
    obtain ⟨k, hk, rfl, hH, q, rfl⟩ := hrel
    by_cases hlt : k < L.length
    · obtain ⟨ad, rfl, B2, c2, hcell, hc2, hC2⟩ := HL.out k hlt
      have htk := take_snocL L k hlt
      have hmem : L.getD k [] ∈ L := by rw [List.getD_eq_getElem?_getD, List.getElem?_eq_getElem hlt]; exact List.getElem_mem _
      obtain ⟨l, hl⟩ : ∃ l, l = L.getD k [] := ⟨_, rfl⟩
      rw [← hl] at hcell hc2 hC2 htk hmem
      have HC2 := Lib.hid (fun n => HC.out n B2 c2 l hC2)
      by_cases hbg : begP l m = true
      · rw [hbg] at HC2
        have hn1 : ((L.take (k + 1)).all fun l => begP l m) = true := by rw [htk, List.all_append, hH.out]; simp [hbg]
        have HN := Lib.hid hn1
        clear hl htk hH hC2 hbg hmem hn1
        go_wp2_with (go_at_call 46; refine (HC2.out _).mono ?_; rintro e w1 ⟨rfl, n, rfl⟩)
        go_roundw
        case rel => exact ⟨k + 1, by omega, by go_num, HN, by first | exact ⟨_, rfl⟩ | exact drew2 _ _ _⟩
        case measure => simp [RowKit.intOf]; omega
      · have hbf : begP l m = false := by simpa using hbg
        rw [hbf] at HC2
        have hall : (L.all fun l => begP l m) = false := by
          rw [List.all_eq_false]; exact ⟨l, hmem, by rw [hbf]; simp⟩
        have hfin : decide (0 ≤ (k : Int)) = !(L.all fun l => begP l m) := by rw [hall]; simp
        have HF := Lib.hid hfin
        clear hl htk hH hC2 hbg hbf hmem hall hfin
        go_wp2_with (go_at_call 46; refine (HC2.out _).mono ?_; rintro e w1 ⟨rfl, n, rfl⟩)
        exact hR.out _ _ ⟨_, rfl, HF.out, by first | exact ⟨_, rfl⟩ | exact drew2 _ _ _⟩
    · obtain rfl : k = L.length := by omega
      rw [List.take_length] at hH
      have hfin : decide (0 ≤ (-1 : Int)) = !(L.all fun l => begP l m) := by rw [hH.out]; rfl
      have HF := Lib.hid hfin
      clear hH hfin
      go_wp2
      exact hR.out _ _ ⟨_, rfl, HF.out, _, rfl⟩
set_option maxHeartbeats 1000000 in
set_option maxRecDepth 100000 in
theorem alike_calls {w : World} {A : Option Addr} {c : Nat} {L : List (List Int)} (h : KdL.C w A L.length L) (hb : (longP L).length < 17592186044416) :
    Calls Try.prog 17 #[.slice A L.length c] w fun e w' => e = .returned (.bool (alikeP L)) ∧ Below w.heap.size w w' := by
  have HLo := Lib.hid (longest_calls (c := c) h hb)
  have HI : Hid (∀ (W : World) (B : Option Addr) (d bx : Nat), Below w.heap.size w W → W.cell? ⟨bx, 0, none⟩ = some (.slice B (longP L).length d) → (Kd.int .i64).C W B (longP L).length (longP L) → (longP L).length ≤ d → Calls Try.prog 61 #[.slice A L.length c, .func (.func 46) #[] #[.pointer (some ⟨bx, 0, none⟩)]] W fun e w' => ∃ x : Int, e = .returned (.int .i64 x) ∧ decide (0 ≤ x) = !(alikeP L) ∧ ∃ n, w' = W.drewN n) :=
    fun W B d bx hB h1 h2 h3 => index_calls (Kd.C_below h hB) h1 h2 h3
  refine calls_k fun R hR => ?_
  clear h
  obtain ⟨m, hm⟩ : ∃ m, m = longP L := ⟨_, rfl⟩
  obtain ⟨b, hbb⟩ : ∃ b, b = alikeP L := ⟨_, rfl⟩
  rw [← hm] at HLo HI
  rw [← hbb] at HI hR
  clear hm hbb hb
  go_enter Try.func17, Try.ntmps17
  go_wp2_with (first
    | (go_at_call 20; refine HLo.out.mono ?_; rintro e w1 ⟨v, rfl, h1, h2⟩; obtain ⟨B, d, rfl, h3, h4⟩ := Kd.R_reads h1)
    | (go_at_call 45; go_in)
    | (go_at_call 61; refine (HI.out _ B d w1.heap.size (h2.alloc h2.size _) (cell_of (heap_alloc_new w1 _) 0) (Kd.C_alloc h4 _) h3).mono ?_; rintro e w2 ⟨x, rfl, hx, n, rfl⟩))
  exact hR.out _ _ ⟨rfl, below_dn (h2.alloc h2.size _) _⟩
end Go.Np.Try

namespace Go.Proofs.Ytjpdhgajpldjbaa.PW
open Go.RowKit Go.Proofs Go.Proofs.YtjpdhgajpldjbaaW.PrintWords Go.Np
/-! As the printed contracts have them. -/
def watch_Begins.f (l0 l1 : List Int) : Option Bool := some (begP l0 l1)
theorem watch_Begins.calls (A0 : Option Addr) (c0 : Nat) (l0 : List Int) (A1 : Option Addr) (c1 : Nat) (l1 : List Int) (r : Bool) (w : World) (hr0 : Kd.C (Kd.int .i64) w A0 l0.length l0) (_hc0 : l0.length ≤ c0) (hr1 : Kd.C (Kd.int .i64) w A1 l1.length l1) (hc1 : l1.length ≤ c1) (h : watch_Begins.f l0 l1 = some r) :
    Calls Try.prog 13 #[.slice A0 l0.length c0, .slice A1 l1.length c1] w fun e w' => e = .returned (.bool r) ∧ Drawn0 w w' := by
  obtain rfl := Option.some.inj h
  refine (Go.Np.Try.begins_calls hr0 hr1 hc1).mono ?_
  rintro e w' ⟨he, hd⟩
  exact ⟨he, ⟨hd⟩⟩
def watch_Unlike.f (l0 : List Int) : Option Bool := if l0.length < 17592186043904 then some (Go.Np.Try.unlP l0) else none
theorem watch_Unlike.calls (A0 : Option Addr) (c0 : Nat) (l0 : List Int) (r : Bool) (w : World) (hr0 : Kd.C (Kd.int .i64) w A0 l0.length l0) (_hc0 : l0.length ≤ c0) (h : watch_Unlike.f l0 = some r) :
    Calls Try.prog 15 #[.slice A0 l0.length c0] w fun e w' => e = .returned (.bool r) ∧ Below w.heap.size w w' := by
  unfold watch_Unlike.f at h
  split at h
  · rename_i hb
    obtain rfl := Option.some.inj h
    exact Go.Np.Try.unlike_calls hr0 hb
  · cases h
def watch_Longest.f (l0 : List (List Int)) : Option (List Int) := if (longP l0).length < 17592186044416 then some (longP l0) else none
theorem watch_Longest.calls (A0 : Option Addr) (c0 : Nat) (l0 : List (List Int)) (r : List Int) (w : World) (hr0 : Kd.C (Kd.slice 3 (Kd.int .i64)) w A0 l0.length l0) (_hc0 : l0.length ≤ c0) (h : watch_Longest.f l0 = some r) :
    Calls Try.prog 20 #[.slice A0 l0.length c0] w fun e w' => ∃ v0_ : Value, e = .returned (v0_) ∧ Kd.R (Kd.int .i64) 3 w' w.heap.size (fun _ => True) v0_ r ∧ Below w.heap.size w w' := by
  unfold watch_Longest.f at h
  split at h
  · rename_i hb
    obtain rfl := Option.some.inj h
    exact Go.Np.Try.longest_calls hr0 hb
  · cases h
def watch_Alike.f (l0 : List (List Int)) : Option Bool := if (longP l0).length < 17592186044416 then some (alikeP l0) else none
theorem watch_Alike.calls (A0 : Option Addr) (c0 : Nat) (l0 : List (List Int)) (r : Bool) (w : World) (hr0 : Kd.C (Kd.slice 3 (Kd.int .i64)) w A0 l0.length l0) (_hc0 : l0.length ≤ c0) (h : watch_Alike.f l0 = some r) :
    Calls Try.prog 17 #[.slice A0 l0.length c0] w fun e w' => e = .returned (.bool r) ∧ Below w.heap.size w w' := by
  unfold watch_Alike.f at h
  split at h
  · rename_i hb
    obtain rfl := Option.some.inj h
    exact Go.Np.Try.alike_calls hr0 hb
  · cases h
end Go.Proofs.Ytjpdhgajpldjbaa.PW
