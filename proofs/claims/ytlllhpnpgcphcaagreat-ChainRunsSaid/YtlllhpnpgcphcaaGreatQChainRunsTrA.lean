/- What ChainRuns needs. -/
import Derived.Test.YtlllhpnpgcphcaaGreatQChainRunsNpA
import Derived.Test.YtlllhpnpgcphcaaGreatQChainRunsPXx0
import Derived.Test.YtlllhpnpgcphcaaGreatQChainRunsTxU
import Derived.Test.YtlllhpnpgcphcaaGreatQChainRunsPXx9
import Derived.Test.YtlllhpnpgcphcaaGreatQChainRunsNpB
import Derived.Lib.SliceRun
import Derived.Deep.RegionHeld3
import Derived.Deep.RegionLaw
set_option linter.unusedVariables false
set_option linter.unusedSimpArgs false
namespace Go.Np.Tryz
open Go.Proofs.YtlllhpnpgcphcaaGreat.PX
abbrev Blk := S35
def okTx (t : S67) : Bool := decide (1 ≤ t.f0) && decide (t.f0 ≤ 1000000) && decide (0 ≤ t.f1) && decide (t.f1 ≤ 1000)
def okTxs (l : List S67) : Bool := unlikeB l && l.all okTx
def namedB (n : Int) : Bool := decide (65536 ≤ n) && decide (n ≤ 268435455) && decide (n % 65536 / 256 < 7)
def rightB (b : Blk) : Bool := decide (1 ≤ b.f0) && decide (b.f0 ≤ 4095) && decide (0 ≤ b.f1) && decide (b.f1 ≤ 6) && decide (0 ≤ b.f2) && decide (b.f2 ≤ 255) &&
  (decide (b.f3 = 0) || (namedB b.f3 && decide (b.f3 / 65536 < b.f0))) && okTxs b.f4
def nameB (b : Blk) : Int := if rightB b = true then b.f0 * 65536 + b.f1 * 256 + b.f2 else 0
theorem nameB_pos {b : Blk} (h : nameB b ≠ 0) : rightB b = true ∧ nameB b = b.f0 * 65536 + b.f1 * 256 + b.f2 ∧ 65536 ≤ nameB b ∧ nameB b ≤ 268435455 ∧ nameB b / 65536 = b.f0 := by
  unfold nameB at h ⊢
  by_cases hr : rightB b = true
  · rw [if_pos hr]
    have h1 := hr
    simp only [rightB, Bool.and_eq_true, decide_eq_true_eq] at h1
    refine ⟨hr, rfl, ?_, ?_, ?_⟩ <;> omega
  · rw [if_neg hr] at h; exact absurd rfl h
theorem parent_lt {b : Blk} (h : nameB b ≠ 0) : b.f3 = 0 ∨ (65536 ≤ b.f3 ∧ b.f3 < nameB b) := by
  obtain ⟨hr, h2, h3, h4, h5⟩ := nameB_pos h
  have h1 := hr
  simp only [rightB, namedB, Bool.and_eq_true, Bool.or_eq_true, decide_eq_true_eq] at h1
  rcases h1.1.2 with h6 | h6
  · exact .inl h6
  · right; omega
structure Kn where
  name : Int
  blk : Blk
  way : List Int
structure Tr where
  known : List Kn
  wait : List Blk
def Tr.find (t : Tr) (n : Int) : Option Kn := t.known.find? fun e => decide (e.name = n)
def Tr.has (t : Tr) (n : Int) : Bool := (t.find n).isSome
def Tr.path (t : Tr) (n : Int) : List Int := match t.find n with
  | some e => e.way
  | none => []
def Tr.high (t : Tr) (n : Int) : Int := if n = 0 then 0 else if t.has n then (t.path n).length else -1
def Tr.ready (t : Tr) (b : Blk) : Bool := decide (b.f3 = 0) || t.has b.f3
def Tr.grow (t : Tr) (b : Blk) : Tr := ⟨t.known ++ [⟨nameB b, b, t.path b.f3 ++ [nameB b]⟩], t.wait⟩
def Tr.room (t : Tr) : Bool := decide (t.known.length < 400)
def Tr.settle : Nat → Tr → List Int → Tr × List Int
  | 0, t, out => (t, out)
  | k + 1, t, out => match t.wait.findIdx? t.ready with
    | none => (t, out)
    | some i =>
      let b := t.wait.getD i z35
      let s : Tr := ⟨t.known, t.wait.eraseIdx i⟩
      if s.room then Tr.settle k (s.grow b) (out ++ [nameB b]) else Tr.settle k s out
def Tr.add (t : Tr) (b : Blk) : Tr × List Int × Bool :=
  if nameB b = 0 ∨ t.has (nameB b) = true ∨ nameB b ∈ t.wait.map nameB then (t, [], false)
  else if t.ready b = false then (⟨t.known, (t.wait ++ [b]).drop (t.wait.length + 1 - 16)⟩, [], true)
  else if t.room = false then (t, [], false)
  else
    let r := Tr.settle (t.wait.length + 1) (t.grow b) [nameB b]
    (r.1, r.2, true)
structure Tr.Ok (t : Tr) : Prop where
  nodup : (t.known.map (·.name) ++ t.wait.map nameB).Nodup
  known : ∀ e ∈ t.known, e.name = nameB e.blk ∧ e.name ≠ 0 ∧ (e.blk.f3 = 0 ∨ t.has e.blk.f3 = true) ∧ e.way = t.path e.blk.f3 ++ [e.name]
  wait : ∀ b ∈ t.wait, nameB b ≠ 0
  few : t.known.length ≤ 400
theorem Tr.find_some {t : Tr} {n : Int} {e : Kn} (h : t.find n = some e) : e ∈ t.known ∧ e.name = n := by
  unfold Tr.find at h
  exact ⟨List.mem_of_find?_eq_some h, by simpa using List.find?_some h⟩
theorem Tr.has_iff {t : Tr} {n : Int} : t.has n = true ↔ n ∈ t.known.map (·.name) := by
  unfold Tr.has Tr.find
  rw [List.find?_isSome, List.mem_map]
  simp
theorem Tr.find_grow {t : Tr} {b : Blk} {n : Int} : (t.grow b).find n = (t.find n).or (if nameB b = n then some ⟨nameB b, b, t.path b.f3 ++ [nameB b]⟩ else none) := by
  unfold Tr.find Tr.grow
  rw [List.find?_append]
  congr 1
  by_cases h : nameB b = n <;> simp [List.find?_cons, h]
theorem Tr.path_grow {t : Tr} {b : Blk} {n : Int} (h : t.has n = true) : (t.grow b).path n = t.path n ∧ (t.grow b).has n = true := by
  unfold Tr.has at h
  obtain ⟨e, he⟩ := Option.isSome_iff_exists.1 h
  have h1 : (t.grow b).find n = some e := by rw [Tr.find_grow, he]; rfl
  exact ⟨by unfold Tr.path; rw [h1, he], by unfold Tr.has; rw [h1]; rfl⟩
theorem Tr.Ok.no_zero {t : Tr} (h : t.Ok) : t.has 0 = false := by
  rw [← Bool.not_eq_true, Tr.has_iff]
  intro hm
  obtain ⟨e, he, h0⟩ := List.mem_map.1 hm
  exact (h.known e he).2.1 h0
theorem Tr.Ok.path_zero {t : Tr} (h : t.Ok) : t.path 0 = [] := by
  have := h.no_zero
  unfold Tr.has at this
  unfold Tr.path
  cases hf : t.find 0 with
  | none => rfl
  | some e => rw [hf] at this; cases this
theorem Tr.Ok.grow {t : Tr} {b : Blk} (h : t.Ok) (hn : nameB b ≠ 0) (hr : t.ready b = true) (hk : t.has (nameB b) = false) (hw : nameB b ∉ t.wait.map nameB) (hm : t.known.length < 400) : (t.grow b).Ok := by
  have hp0 : ∀ n, n = 0 ∨ t.has n = true → (t.grow b).path n = t.path n := by
    intro n hn'
    rcases hn' with rfl | hn'
    · have hz : (t.grow b).find 0 = none := by
        rw [Tr.find_grow, if_neg hn]
        have := h.no_zero
        unfold Tr.has at this
        cases hf : t.find 0 with
        | none => rfl
        | some e => rw [hf] at this; cases this
      rw [h.path_zero]; unfold Tr.path; rw [hz]
    · exact (Tr.path_grow hn').1
  have hk' : nameB b ∉ t.known.map (·.name) := by rw [← Tr.has_iff, hk]; simp
  have hrd : b.f3 = 0 ∨ t.has b.f3 = true := by simpa [Tr.ready] using hr
  refine ⟨?_, ?_, h.wait, ?_⟩
  · have h1 := h.nodup
    rw [List.nodup_append] at h1 ⊢
    obtain ⟨n1, n2, n3⟩ := h1
    refine ⟨?_, n2, ?_⟩
    · show ((t.known ++ [_]).map _).Nodup
      rw [List.map_append, List.nodup_append]
      refine ⟨n1, by simp, fun x hx y hy => ?_⟩
      simp at hy
      subst hy
      intro he; subst he; exact hk' hx
    · intro x hx y hy
      have hx' : x ∈ (t.known ++ [(⟨nameB b, b, t.path b.f3 ++ [nameB b]⟩ : Kn)]).map (·.name) := hx
      rw [List.map_append, List.mem_append] at hx'
      rcases hx' with hx' | hx'
      · exact n3 x hx' y hy
      · simp at hx'
        subst hx'
        intro he; subst he; exact hw hy
  · intro e he
    have he' : e ∈ t.known ∨ e = ⟨nameB b, b, t.path b.f3 ++ [nameB b]⟩ := by simpa [Tr.grow] using he
    rcases he' with he' | rfl
    · obtain ⟨e1, e2, e3, e4⟩ := h.known e he'
      refine ⟨e1, e2, e3.imp id (fun x => (Tr.path_grow x).2), ?_⟩
      rw [hp0 _ e3]; exact e4
    · refine ⟨rfl, hn, hrd.imp id (fun x => (Tr.path_grow x).2), ?_⟩
      show _ = (t.grow b).path b.f3 ++ _
      rw [hp0 _ hrd]
  · show (t.known ++ [_]).length ≤ 400
    simp; omega
end Go.Np.Tryz
set_option linter.unusedVariables false
set_option linter.unusedSimpArgs false
namespace Go.Np.Tryz
open Go.RowKit Go.Proofs Go.Proofs.YtlllhpnpgcphcaaGreat.PX Go.Proofs.YtlllhpnpgcphcaaGreatW.PrintWords
theorem wr_in (n : Int) (h : -9223372036854775808 ≤ n ∧ n ≤ 9223372036854775807) : wrap64 n = n := by unfold wrap64; omega
theorem u64_range (x : Int) : 0 ≤ IntKind.u64.wrap x ∧ IntKind.u64.wrap x < 18446744073709551616 := by
  have : IntKind.u64.wrap x = x % 18446744073709551616 := by simp [IntKind.wrap, IntKind.bits, IntKind.signed]
  rw [this]; omega
theorem num_ev : ∀ (m : Nat) (x : Int) (l : List Int), 0 ≤ x → x < 128 ^ (m + 1) → l.length + m + 1 < 1000000 → ∀ k, m + 1 ≤ k → ∃ r, wire_Num.l0 k x l = some r ∧ r.length ≤ l.length + m + 1
  | 0, x, l, h0, h1, hl, k, hk => by
    obtain ⟨k, rfl⟩ : ∃ j, k = j + 1 := ⟨k - 1, by omega⟩
    unfold wire_Num.l0
    rw [if_neg (by simpa using h1), if_pos (by omega)]
    exact ⟨_, rfl, by simp⟩
  | m + 1, x, l, h0, h1, hl, k, hk => by
    obtain ⟨k, rfl⟩ : ∃ j, k = j + 1 := ⟨k - 1, by omega⟩
    unfold wire_Num.l0
    by_cases h : x ≥ 128
    · rw [if_pos h, if_pos (by omega)]
      obtain ⟨r, h2, h3⟩ := num_ev m (x / 128) (l ++ [Go.bits .or .u8 ((x) % 256) 128]) (by omega) (by rw [Int.pow_succ] at h1; omega) (by simp; omega) k (by omega)
      exact ⟨r, h2, by simp at h3; omega⟩
    · rw [if_neg h, if_pos (by omega)]
      exact ⟨_, rfl, by simp⟩
theorem nums_ev (l : List Int) (h1 : ∀ x ∈ l, -1 ≤ x) (h2 : l.length ≤ 64) : ∀ (n j : Nat) (x4 : List Int), j + n = l.length → x4.length ≤ 10 * j → ∀ k, n + 12 ≤ k → ∃ r, wire_Nums.l0 k x4 l (l.length : Int) (j : Int) = some (r, 0) ∧ r.length ≤ 10 * l.length
  | 0, j, x4, hj, hx, k, hk => by
    obtain ⟨k, rfl⟩ : ∃ j, k = j + 1 := ⟨k - 1, by omega⟩
    unfold wire_Nums.l0
    rw [if_neg (by omega)]
    exact ⟨_, rfl, by omega⟩
  | n + 1, j, x4, hj, hx, k, hk => by
    obtain ⟨k, rfl⟩ : ∃ j, k = j + 1 := ⟨k - 1, by omega⟩
    unfold wire_Nums.l0
    have hm : rd l (j : Int) ∈ l := by unfold rd; simp [List.getD_eq_getElem?_getD, List.getElem?_eq_getElem (show j < l.length by omega)]
    have hv := h1 _ hm
    have hu := u64_range ((IntKind.u64.wrap (rd l (j : Int))) + 1)
    obtain ⟨r, h3, h4⟩ := num_ev 9 _ [] hu.1 (by have := hu.2; omega) (by simp) k (by omega)
    rw [if_pos (by omega), if_pos (by omega), if_pos (by omega), if_neg (by omega)]
    unfold wire_Num.f
    rw [h3]
    simp only [Option.bind_some]
    simp at h4
    rw [if_pos (by omega), show wrap64 ((j : Int) + 1) = ((j + 1 : Nat) : Int) from by rw [wr_in _ (by omega)]; rfl]
    exact nums_ev l h1 h2 n (j + 1) (x4 ++ r) (by omega) (by simp; omega) k (by omega)
theorem nums_f (l : List Int) (h1 : ∀ x ∈ l, -1 ≤ x) (h2 : l.length ≤ 64) (k : Nat) (hk : l.length + 12 ≤ k) : ∃ r, wire_Nums.f k l = some (r, 0) ∧ r.length ≤ 10 * l.length := by
  unfold wire_Nums.f
  rw [if_neg (by omega)]
  exact nums_ev l h1 h2 l.length 0 [] (by omega) (by simp) k hk
theorem txRight_ev (x y : Int) : tx_Right.f x y = some (okTx ⟨x, y⟩) := by
  unfold tx_Right.f okTx
  by_cases h1 : x ≥ 1 <;> by_cases h2 : x ≤ 1000000 <;> by_cases h3 : y ≥ 0 <;> by_cases h4 : y ≤ 1000 <;> simp [h1, h2, h3, h4] <;> omega
theorem bytes_ev (t : S67) (k : Nat) (hk : 20 ≤ k) : ∃ r, tx_Bytes.f k t.f0 t.f1 = some (r, if okTx t = true then 0 else 61) ∧ r.length ≤ 20 := by
  unfold tx_Bytes.f
  rw [txRight_ev]
  simp only [Option.bind_some]
  by_cases h : okTx t = true
  · rw [if_pos h, if_pos h]
    have h1 := h
    simp only [okTx, Bool.and_eq_true, decide_eq_true_eq] at h1
    obtain ⟨r, h2, h3⟩ := nums_f [t.f0, t.f1] (by simp; omega) (by simp) k (by simp; omega)
    rw [h2]
    exact ⟨r, rfl, by simpa using h3⟩
  · rw [if_neg h, if_neg h]
    exact ⟨_, rfl, by simp⟩
theorem list_ev (l : List S67) (h2 : l.length ≤ 3) : ∀ (n j : Nat) (x4 : List Int), j + n = l.length → x4.length ≤ 20 * j + 10 → ∀ k, n + 21 ≤ k → ∃ r, tx_List.l0 k x4 l (l.length : Int) (j : Int) = some (r, if (l.drop j).all okTx = true then 0 else 61)
  | 0, j, x4, hj, hx, k, hk => by
    obtain ⟨k, rfl⟩ : ∃ j, k = j + 1 := ⟨k - 1, by omega⟩
    unfold tx_List.l0
    rw [if_neg (by omega), List.drop_eq_nil_of_le (by omega)]
    exact ⟨_, rfl⟩
  | n + 1, j, x4, hj, hx, k, hk => by
    obtain ⟨k, rfl⟩ : ∃ j, k = j + 1 := ⟨k - 1, by omega⟩
    have hlt : j < l.length := by omega
    have hd : l.drop j = rd_T67 l (j : Int) :: l.drop (j + 1) := by
      rw [List.drop_eq_getElem_cons hlt]; simp [rd_T67, List.getD_eq_getElem?_getD, List.getElem?_eq_getElem hlt]
    unfold tx_List.l0
    obtain ⟨r, h3, h4⟩ := bytes_ev (rd_T67 l (j : Int)) k (by omega)
    rw [if_pos (by omega), if_pos (by omega), if_pos (by omega), h3, hd]
    simp only [Option.bind_some, List.all_cons]
    by_cases hb : okTx (rd_T67 l (j : Int)) = true
    · rw [if_pos hb, if_pos rfl, if_pos (by omega), show wrap64 ((j : Int) + 1) = ((j + 1 : Nat) : Int) from by rw [wr_in _ (by omega)]; rfl]
      simp only [hb, Bool.true_and]
      exact list_ev l h2 n (j + 1) (x4 ++ r) (by omega) (by simp; omega) k (by omega)
    · rw [if_neg hb, if_neg (by decide)]
      simp only [Bool.not_eq_true] at hb
      simp only [hb, Bool.false_and]
      exact ⟨_, rfl⟩
theorem list_f (l : List S67) (k : Nat) (hk : 30 ≤ k) : ∃ r, tx_List.f k l = some (r, if okTxs l = true then 0 else 61) := by
  unfold tx_List.f tx_unlike.f okTxs
  simp only [Option.bind_some]
  by_cases h : unlikeB l = true
  · have h1 := h
    simp only [unlikeB, Bool.and_eq_true, decide_eq_true_eq] at h1
    rw [if_pos h, h]
    obtain ⟨r, h2, h3⟩ := nums_f [(l.length : Int)] (by simp; try omega) (by simp) k (by simp; omega)
    rw [h2]
    simp only [Option.bind_some]
    obtain ⟨r', h4⟩ := list_ev l h1.2 l.length 0 r (by omega) (by simpa using h3) k (by omega)
    exact ⟨r', by simpa using h4⟩
  · rw [if_neg h]
    simp only [Bool.not_eq_true] at h
    rw [h]
    exact ⟨_, rfl⟩
theorem named_ev (n : Int) : block_named.f n = some (namedB n) := by
  unfold block_named.f block_between.f namedB
  by_cases h1 : n ≥ 65536
  · rw [if_pos h1]
    by_cases h2 : n ≤ 268435455
    · have e1 : Int.tmod n 65536 = n % 65536 := Int.tmod_eq_emod_of_nonneg (by omega)
      have e2 : Int.tdiv (n % 65536) 256 = n % 65536 / 256 := Int.tdiv_eq_ediv_of_nonneg (by omega)
      simp only [Option.bind_some, h2, decide_true, if_true, e1, e2]
      rw [wr_in _ (by omega)]
      simp [h1]
    · simp [h1, h2]
  · rw [if_neg h1]; simp [h1]
theorem between_ev (n a b : Int) : block_between.f n a b = some (decide (a ≤ n) && decide (n ≤ b)) := by
  unfold block_between.f
  by_cases h1 : n ≥ a
  · rw [if_pos h1]; simp [h1]
  · rw [if_neg h1]; simp [h1]
theorem right_ev (b : Blk) (k : Nat) (hk : 40 ≤ k) : block_Right.f k b.f0 b.f1 b.f2 b.f3 b.f4 = some (rightB b) := by
  obtain ⟨k, rfl⟩ : ∃ j, k = j + 1 := ⟨k - 1, by omega⟩
  obtain ⟨r, hl⟩ := list_f b.f4 k (by omega)
  have hf : block_Right.j0 (k + 1) true b.f0 b.f1 b.f2 b.f3 b.f4 = some false := by unfold block_Right.j0; simp
  unfold block_Right.f
  simp only [between_ev, Option.bind_some]
  by_cases h0 : (decide ((1 : Int) ≤ b.f0) && decide (b.f0 ≤ 4095)) = true
  · by_cases h1 : (decide ((0 : Int) ≤ b.f1) && decide (b.f1 ≤ 6)) = true
    · by_cases h2 : (decide ((0 : Int) ≤ b.f2) && decide (b.f2 ≤ 255)) = true
      · rw [if_pos h0, if_pos h1, h2]
        simp only [Bool.and_eq_true, decide_eq_true_eq] at h0 h1 h2
        unfold block_Right.j0
        simp only [Bool.not_true, Bool.false_eq_true, if_false, hl, named_ev, Option.bind_some]
        have e : rightB b = ((decide (b.f3 = 0) || (namedB b.f3 && decide (b.f3 / 65536 < b.f0))) && okTxs b.f4) := by
          unfold rightB; simp [h0, h1, h2]
        rw [e]
        by_cases h3 : b.f3 = 0
        · rw [if_pos h3]
          by_cases h4 : okTxs b.f4 = true
          · simp [h3, h4]
          · simp [h3, h4]
        · rw [if_neg h3]
          by_cases h5 : namedB b.f3 = true
          · have h6 := h5
            simp only [namedB, Bool.and_eq_true, decide_eq_true_eq] at h6
            have e2 : Int.tdiv b.f3 65536 = b.f3 / 65536 := Int.tdiv_eq_ediv_of_nonneg (by omega)
            rw [if_pos h5, e2, wr_in _ (by omega)]
            by_cases h7 : b.f3 / 65536 ≥ b.f0
            · rw [if_pos h7]; simp [h3, h5]; omega
            · rw [if_neg h7]
              by_cases h4 : okTxs b.f4 = true
              · simp [h3, h5, h4]; omega
              · simp [h3, h4]
          · rw [if_neg h5]; simp [h3, h5]
      · rw [if_pos h0, if_pos h1]
        simp only [Bool.not_eq_true] at h2
        rw [h2]
        simp only [Bool.not_false]
        rw [hf]
        congr 1
        symm
        unfold rightB
        rw [show (decide (1 ≤ b.f0) && decide (b.f0 ≤ 4095) && decide (0 ≤ b.f1) && decide (b.f1 ≤ 6) && decide (0 ≤ b.f2) && decide (b.f2 ≤ 255)) = ((decide (1 ≤ b.f0) && decide (b.f0 ≤ 4095) && decide (0 ≤ b.f1) && decide (b.f1 ≤ 6)) && (decide (0 ≤ b.f2) && decide (b.f2 ≤ 255))) by simp [Bool.and_assoc], h2]
        simp
    · rw [if_pos h0, if_neg h1, hf]
      simp only [Bool.not_eq_true] at h1
      congr 1
      symm
      unfold rightB
      rw [show (decide (1 ≤ b.f0) && decide (b.f0 ≤ 4095) && decide (0 ≤ b.f1) && decide (b.f1 ≤ 6)) = ((decide (1 ≤ b.f0) && decide (b.f0 ≤ 4095)) && (decide (0 ≤ b.f1) && decide (b.f1 ≤ 6))) by simp [Bool.and_assoc], h1]
      simp
  · rw [if_neg h0, hf]
    simp only [Bool.not_eq_true] at h0
    congr 1
    symm
    unfold rightB
    rw [h0]
    simp
theorem name_ev (b : Blk) : block_Name.f 40 b.f0 b.f1 b.f2 b.f3 b.f4 = some (nameB b) := by
  unfold block_Name.f
  rw [right_ev b 40 (by omega)]
  simp only [Option.bind_some]
  unfold nameB
  by_cases h : rightB b = true
  · rw [if_pos h, if_pos h]
    have h1 := h
    simp only [rightB, Bool.and_eq_true, decide_eq_true_eq] at h1
    rw [wr_in (b.f0 * 65536) (by omega), wr_in (b.f1 * 256) (by omega), wr_in (b.f0 * 65536 + b.f1 * 256) (by omega), wr_in _ (by omega)]
  · rw [if_neg h, if_neg h]
def blkV (b : Blk) (A : Option Addr) (c : Nat) : Value := .agg #[.int .i64 b.f0, .int .i64 b.f1, .int .i64 b.f2, .int .i64 b.f3, .slice A b.f4.length c]
theorem name_calls {w : World} (b : Blk) (A : Option Addr) (c : Nat) (h : Kd.C k67 w A b.f4.length b.f4) (hc : b.f4.length ≤ c) :
    Calls Tryz.prog 70 #[blkV b A c] w fun e w' => e = .returned (.int .i64 (nameB b)) ∧ Below w.heap.size w w' :=
  block_Name.calls 40 b.f0 b.f1 b.f2 b.f3 A c b.f4 (nameB b) w h hc (name_ev b)
end Go.Np.Tryz
set_option linter.unusedVariables false
set_option linter.unusedSimpArgs false
namespace Go.Np
open Go.RowKit
def RowAt (w : World) (e : TypeId) (sz : Nat) (v : Value) (n : Nat) (xs : List Value) : Prop :=
  xs.length = n * sz ∧ ((v = .slice none 0 0 ∧ n = 0) ∨
    ∃ g off cap cur, v = .slice (some ⟨g, off, none⟩) n cap ∧ w.heap[g]? = some (.cells cur e (0, 0)) ∧ n ≤ cap ∧ cap ≤ maxLen ∧ off + cap * sz ≤ cur.size ∧ (cur.toList.drop off).take (n * sz) = xs)
theorem RowAt.of_own {w : World} {base : Nat} {e : TypeId} {sz n : Nat} {v : Value} {xs : List Value} (h : w.ownsRow base e sz v n xs) : RowAt w e sz v n xs := by
  refine ⟨h.1, ?_⟩
  rcases h.2 with h2 | ⟨g, cap, cur, rfl, hb, hh, h3, h4, h5, h6⟩
  · exact .inl h2
  · exact .inr ⟨g, 0, cap, cur, rfl, hh, h3, h4, by omega, by simpa using h6⟩
theorem RowAt.move {w w' : World} {e : TypeId} {sz n : Nat} {v : Value} {xs : List Value} (h : RowAt w e sz v n xs) (hf : ∀ k, v.ownBlock = some k → w'.heap[k]? = w.heap[k]?) : RowAt w' e sz v n xs := by
  refine ⟨h.1, ?_⟩
  rcases h.2 with h2 | ⟨g, off, cap, cur, rfl, hh, r⟩
  · exact .inl h2
  · exact .inr ⟨g, off, cap, cur, rfl, (hf g rfl).trans hh, r⟩
theorem RowAt.lt {w : World} {e : TypeId} {sz n : Nat} {v : Value} {xs : List Value} (h : RowAt w e sz v n xs) : ∀ k ∈ v.ownBlock.toList, k < w.heap.size := by
  intro k hk
  rcases h.2 with ⟨h2, _⟩ | ⟨g, off, cap, cur, rfl, hh, r⟩
  · rw [h2] at hk; simp [Value.ownBlock] at hk
  · simp [Value.ownBlock] at hk
    subst hk
    exact (Array.getElem?_eq_some_iff.1 hh).1
theorem RowAt.fr {w w' : World} {S : List Nat} {e : TypeId} {sz n : Nat} {v : Value} {xs : List Value} (h : RowAt w e sz v n xs) (hf : Fr S w w') (hd : ∀ k ∈ v.ownBlock.toList, k ∉ S) : RowAt w' e sz v n xs :=
  h.move fun k hk => hf.block k (h.lt k (by simp [hk])) (hd k (by simp [hk]))
theorem RowAt.form {w : World} {e : TypeId} {sz n : Nat} {v : Value} {xs : List Value} (h : RowAt w e sz v n xs) : ∃ A cp, v = .slice A n cp ∧ n ≤ cp := by
  rcases h.2 with ⟨h1, h2⟩ | ⟨g, off, cap, cur, rfl, hh, h3, r⟩
  · exact ⟨none, 0, by rw [h1, h2], by omega⟩
  · exact ⟨_, _, rfl, h3⟩
theorem RowAt.ne_obj {w : World} {e t : TypeId} {sz n p : Nat} {v : Value} {xs : List Value} {cs : Array Value} {fz : Nat × Nat} (h : RowAt w e sz v n xs) (hp : w.heap[p]? = some (.cells cs t fz)) (hne : e ≠ t) : p ∉ v.ownBlock.toList := by
  intro hk
  rcases h.2 with ⟨h1, _⟩ | ⟨g, off, cap, cur, h1, h2, _⟩
  · rw [h1] at hk; simp [Value.ownBlock] at hk
  · rw [h1] at hk
    simp [Value.ownBlock] at hk
    subst hk
    rw [hp] at h2; injection h2 with h2; injection h2 with _ h2; exact hne h2.symm
theorem RowAt.ne_map {w : World} {e : TypeId} {sz n p : Nat} {v : Value} {xs : List Value} {es : Array MapEntry} {cl : Nat} (h : RowAt w e sz v n xs) (hp : w.heap[p]? = some (.map es cl)) : p ∉ v.ownBlock.toList := by
  intro hk
  rcases h.2 with ⟨h1, _⟩ | ⟨g, off, cap, cur, h1, h2, _⟩
  · rw [h1] at hk; simp [Value.ownBlock] at hk
  · rw [h1] at hk
    simp [Value.ownBlock] at hk
    subst hk
    rw [hp] at h2; cases h2
theorem RowAt.cell {w : World} {e : TypeId} {sz n cp : Nat} {A : Option Addr} {xs : List Value} (h : RowAt w e sz (.slice A n cp) n xs) (j : Nat) (u : Value) (hu : xs[j]? = some u) : ∃ ad, A = some ad ∧ ad.spot = none ∧ w.cell? (ad.add j) = some u := by
  have hj := (List.getElem?_eq_some_iff.1 hu).1
  have h1 := h.1
  rcases h.2 with ⟨h2, h3⟩ | ⟨g, off, cap, cur, h2, h4, _, _, _, h5⟩
  · subst h3; omega
  · injection h2 with h2 _ _
    refine ⟨_, h2, rfl, ?_⟩
    rw [show (⟨g, off, none⟩ : Addr).add j = ⟨g, off + j, none⟩ from by unfold Addr.add; split <;> simp_all, cell_of h4, ← Array.getElem?_toList]
    rw [← h5, List.getElem?_take] at hu
    split at hu
    · rw [List.getElem?_drop] at hu; exact hu
    · cases hu
theorem RowAt.tail {w : World} {e : TypeId} {sz n g off cap : Nat} {xs : List Value} (hsz : 0 < sz) (h : RowAt w e sz (.slice (some ⟨g, off, none⟩) (n + 1) cap) (n + 1) xs) (A : Option Addr) (hA : A = (if cap = 1 then some (⟨g, off, none⟩ : Addr) else some ⟨g, off + sz, none⟩)) :
    RowAt w e sz (.slice A n (cap - 1)) n (xs.drop sz) := by
  have h1 := h.1
  rcases h.2 with ⟨h2, h3⟩ | ⟨g', off', cap', cur, h2, h4, h5, h6, h7, h8⟩
  · cases h3
  · injection h2 with h2 _ h3
    injection h2 with h2
    injection h2 with h2 h9
    subst h2 h3 h9
    have hl : (xs.drop sz).length = n * sz := by rw [List.length_drop, h1, Nat.add_mul]; omega
    refine ⟨hl, .inr ?_⟩
    by_cases hc : cap = 1
    · rw [if_pos hc] at hA
      have hn : n = 0 := by omega
      subst hn
      have : xs.drop sz = [] := List.eq_nil_of_length_eq_zero (by rw [hl]; simp)
      refine ⟨g, off, cap - 1, cur, by rw [hA], h4, by omega, by omega, ?_, by simp [this]⟩
      subst hc; simp at h7 ⊢; omega
    · rw [if_neg hc] at hA
      refine ⟨g, off + sz, cap - 1, cur, by rw [hA], h4, by omega, by omega, ?_, ?_⟩
      · have : cap * sz = (cap - 1) * sz + sz := by rw [← Nat.succ_mul]; congr 1; omega
        omega
      · rw [← h8, List.drop_take, List.drop_drop]
        congr 1
        rw [Nat.add_mul]; omega
section
variable {P : Program}
theorem run_append_room_off {w : World} (t ty e : TypeId) (i : TypeInfo) (ht : P.underlying t = some (.slice e)) (hi : P.info? e = some i)
    (g off sLen sCap : Nat) (cur : Array Value) (hg : w.heap[g]? = some (.cells cur e (0, 0)))
    (a : Addr) (m c : Nat) (news : List Value) (hl : news.length = m * i.size) (hnews : ∀ j u, news[j]? = some u → w.cell? (a.add j) = some u) (h1 : ∀ u ∈ news, u.oneCell' = true)
    (hroom : sLen + m ≤ sCap) (hfit : off + sLen * i.size + news.length ≤ cur.size) :
    (Builtin.append_ #[t, t] ty #[.slice (some ⟨g, off, none⟩) sLen sCap, .slice (some a) m c]).run P w =
      .ok (.slice (some ⟨g, off, none⟩) (sLen + m) sCap) (w.setRow g (cur.toList.take (off + sLen * i.size) ++ news ++ cur.toList.drop (off + sLen * i.size + news.length)).toArray) := by
  have hf := run_firstCells_some (P := P) w i.size m a m c news hl hnews
  have hst := run_storeCells_at P g (off + sLen * i.size) e news 0 cur w hg (by simpa using hfit) h1
  simp only [Nat.add_zero] at hst
  simp [Builtin.append_, run_underlying ht, sizeOf, typeInfo, hi, Builtin.lenOf, hroom, hf, Addr.add_lit, hst]
theorem fr_setRow {w : World} {g : Nat} {cs : Array Value} : Fr [g] w (w.setRow g cs) :=
  ⟨rfl, rfl, rfl, by simp [World.setRow], fun k _ hk => setRow_other w g k _ (by simpa using hk)⟩
theorem run_appendR (w : World) (t ty e : TypeId) (ht : P.underlying t = some (.slice e)) {z : Value} {size bytes : Nat} (hinfo : (P.info? e).map (fun i => (i.zero, i.size, i.bytes)) = some (some z, size, bytes)) (hz : z.cells.size = size) (hs0 : 0 < size)
    {v : Value} {n : Nat} {xs : List Value} (hown : RowAt w e size v n xs) (ad : Addr) (m c : Nat) (news : List Value) (hl : news.length = m * size) (hnews : ∀ j u, news[j]? = some u → w.cell? (ad.add j) = some u) (h1 : ∀ u ∈ news, u.oneCell' = true)
    (h63 : n + m ≤ maxLen) (hbytes : (n + m) * bytes ≤ 140737488355328) :
    ∃ A' c' w', (Builtin.append_ #[t, t] ty #[v, .slice (some ad) m c]).run P w = .ok (.slice A' (n + m) c') w' ∧ RowAt w' e size (.slice A' (n + m) c') (n + m) (xs ++ news) ∧ Fr v.ownBlock.toList w w' ∧ Fresh v.ownBlock.toList (Value.slice A' (n + m) c').ownBlock.toList w := by
  rcases hown.2 with ⟨rfl, rfl⟩ | ⟨g, off, cap, cur, rfl, hg, hnc, hcm, hcs, htake⟩
  · have hx : xs = [] := List.eq_nil_of_length_eq_zero (by simpa using hown.1)
    subst hx
    obtain ⟨A', c', w', a1, a2, a3, a4⟩ := run_appendS (P := P) w t ty e ht hinfo hz hs0 (World.ownsRow_nil w 0 e size) ad m c news hl hnews h1 h63 hbytes
    exact ⟨A', c', w', a1, RowAt.of_own a2, a3, a4⟩
  · obtain ⟨i, hi, hzz⟩ := Option.map_eq_some_iff.1 hinfo
    simp only [Prod.mk.injEq] at hzz
    obtain ⟨hz0, hz1, hz2⟩ := hzz
    subst hz1 hz2
    have hlen : (xs ++ news).length = (n + m) * i.size := by rw [List.length_append, hown.1, hl, Nat.add_mul]
    have hxl := hown.1
    by_cases hroom : n + m ≤ cap
    · have hfit : off + n * i.size + news.length ≤ cur.size := by
        have : (n + m) * i.size ≤ cap * i.size := Nat.mul_le_mul_right _ hroom
        rw [Nat.add_mul] at this
        rw [hl]; omega
      have hr := run_append_room_off (P := P) t ty e i ht hi g off n cap cur hg ad m c news hl hnews h1 hroom hfit
      refine ⟨_, _, _, hr, ⟨hlen, .inr ⟨g, off, cap, _, rfl, setRow_heap w g cur _ e _ hg, hroom, hcm, ?_, ?_⟩⟩, fr_setRow, fun k hk => .inl hk⟩
      · simp only [List.size_toArray, List.length_append, List.length_take, List.length_drop, Array.length_toList]
        omega
      · simp only []
        have e1 : (cur.toList.take (off + n * i.size) ++ news ++ cur.toList.drop (off + n * i.size + news.length)) = cur.toList.take off ++ (xs ++ news ++ cur.toList.drop (off + n * i.size + news.length)) := by
          rw [List.take_add, htake]; simp
        rw [e1, List.drop_left' (by simp; omega), List.take_left' hlen]
    · have holds : ∀ j u, xs[j]? = some u → w.cell? ((⟨g, off, none⟩ : Addr).add j) = some u := fun j u hu => by
        obtain ⟨ad', e1, _, e2⟩ := hown.cell j u hu
        injection e1 with e1
        rw [e1]; exact e2
      unfold maxLen at h63
      have hr := run_append_grow (P := P) w t ty e i z ht hi hz0 ⟨g, off, none⟩ n cap xs hown.1 holds ad m c news hl hnews (by omega) (by omega) (growslice_fits (by omega) hbytes)
      have hge := grownCap_ge w (n + m) cap e
      have hcm' : grownCap w (n + m) cap e ≤ maxLen := grownCap_le_maxLen w (n + m) cap e (by unfold maxLen; omega)
      refine ⟨_, _, _, hr, ⟨hlen, .inr ⟨w.heap.size, 0, _, _, rfl, heap_alloc_new w.drew _, hge, hcm', ?_, ?_⟩⟩, ((Fr.refl _ w).drew).alloc _, fun k hk => .inr (by simp [Value.ownBlock] at hk; omega)⟩
      · simp only [Array.size_append, List.size_toArray, size_zeroCells, hz, hown.1, hl, ← Nat.add_mul, Nat.zero_add]
        exact Nat.mul_le_mul_right _ (by omega)
      · simp only [Array.toList_append, List.append_assoc, List.drop_zero]
        rw [← List.append_assoc, ← hlen]
        exact List.take_left
section
variable {ops : Array Oper} {rest : List Oper} {o : Oper} {a : Act} {Q : Exit → Act → World → Prop}
theorem st_appendR {w : World} {K : Act → World → Prop} {E : Prop} (hg : o.guard = none) (s x : Operand) (t e : TypeId)
    (ho : o.op = .call { callee := .builtin .append, args := #[s, x], argTypes := #[t, t] })
    (ht : P.underlying t = some (.slice e)) {z : Value} {size bytes : Nat} (hinfo : (P.info? e).map (fun i => (i.zero, i.size, i.bytes)) = some (some z, size, bytes)) (hz : z.cells.size = size) (hs0 : 0 < size)
    {v : Value} {n : Nat} {xs : List Value} (hown : RowAt w e size v n xs) (hs : a.eval s = v) (ad : Addr) (m c : Nat) (news : List Value) (hx : a.eval x = .slice (some ad) m c) (hl : news.length = m * size) (hnews : ∀ j u, news[j]? = some u → w.cell? (ad.add j) = some u) (h1 : ∀ u ∈ news, u.oneCell' = true)
    (h63 : n + m ≤ maxLen) (hbytes : (n + m) * bytes ≤ 140737488355328)
    (h : ∀ A' c' w', RowAt w' e size (.slice A' (n + m) c') (n + m) (xs ++ news) → Fr v.ownBlock.toList w w' → Fresh v.ownBlock.toList (Value.slice A' (n + m) c').ownBlock.toList w → K (a.put o.dst (.slice A' (n + m) c')) w') :
    if Region.wanted o (yielded ops a.tmps) = true then Oper.wp P o a w K Q else E := by
  have hw : Region.wanted o (yielded ops a.tmps) = true := by simp [Region.wanted, hg]
  rw [if_pos hw]
  obtain ⟨A', c', w', hr, h2, h3, h4⟩ := run_appendR (P := P) w t o.type e ht hinfo hz hs0 hown ad m c news hl hnews h1 h63 hbytes
  unfold Oper.wp execOp
  simp only [ho, resolve, invoke, builtin, Sem.run_bind, Sem.run_pure, Result.andThen_ok, List.map_toArray, List.map_cons, List.map_nil, hs, hx, hr]
  exact h A' c' w' h2 h3 h4
end
end
end Go.Np
namespace Go.Np.Tryz
open Go.RowKit Go.Proofs Go.Proofs.YtlllhpnpgcphcaaGreat.PX Go.Proofs.YtlllhpnpgcphcaaGreatW.PrintWords
def cellsT (q : S67) : List Value := [.int .i64 q.f0, .int .i64 q.f1]
def flatT (l : List S67) : List Value := l.flatMap cellsT
theorem flatT_len (l : List S67) : (flatT l).length = l.length * 2 := by
  induction l with
  | nil => rfl
  | cons q l ih => unfold flatT at *; rw [List.flatMap_cons, List.length_append, ih]; simp [cellsT]; omega
theorem flatT_one (l : List S67) : ∀ u ∈ flatT l, u.oneCell' = true := by
  intro u hu
  obtain ⟨q, _, h⟩ := List.mem_flatMap.1 hu
  simp [cellsT] at h
  rcases h with rfl | rfl <;> rfl
theorem flatT_get : ∀ (l : List S67) (j : Nat), (flatT l)[j]? = (l[j / 2]?).bind (fun q => (cellsT q)[j % 2]?) := by
  intro l
  induction l with
  | nil => intro j; rfl
  | cons q l ih =>
    intro j
    unfold flatT at *
    rw [List.flatMap_cons]
    by_cases h : j < 2
    · rw [List.getElem?_append_left (by simpa [cellsT] using h), show j / 2 = 0 by omega, show j % 2 = j by omega]; rfl
    · rw [List.getElem?_append_right (by simp [cellsT]; omega), show (cellsT q).length = 2 from rfl, ih, show j / 2 = (j - 2) / 2 + 1 by omega, show j % 2 = (j - 2) % 2 by omega]; rfl
theorem flatT_cells {w : World} {ad : Addr} {l : List S67} (h : k67.C w (some ad) l.length l) : ∀ j u, (flatT l)[j]? = some u → w.cell? (ad.add j) = some u := by
  intro j u hu
  rw [flatT_get] at hu
  cases hq : l[j / 2]? with
  | none => rw [hq] at hu; cases hu
  | some q =>
    rw [hq] at hu
    have hlt := (List.getElem?_eq_some_iff.1 hq).1
    obtain ⟨ad', e, hc⟩ := h.2.2 (by omega)
    injection e with e
    subst e
    obtain ⟨c, hcl, hK, hcc⟩ := hc (j / 2) q hq
    obtain rfl := k67_open hK
    have := hcc (j % 2) u hu
    rw [show j / 2 * k67.sz + j % 2 = j from by show j / 2 * 2 + j % 2 = j; omega] at this
    exact this
theorem flatT_reps (l : List S67) : Reps (fun q cs => cs = cellsT q) 2 l (flatT l) := by
  induction l with
  | nil => exact Reps.none _ _
  | cons q l ih =>
    have h1 : Reps (fun (q : S67) cs => cs = cellsT q) 2 [q] (cellsT q) := by simpa using (Reps.none (fun (q : S67) cs => cs = cellsT q) 2).snoc (p := q) rfl rfl
    have := Kd.reps_append h1 ih
    simpa [flatT] using this
theorem flatT_C {w : World} {base : Nat} {v : Value} {l : List S67} (h : w.ownsRow base 67 2 v l.length (flatT l)) : ∃ A c, v = .slice A l.length c ∧ l.length ≤ c ∧ k67.C w A l.length l := by
  obtain ⟨A, c, he, hl, hr⟩ := OwnRow.reads (R := fun q cs => cs = cellsT q) ⟨flatT l, h, flatT_reps l⟩
  exact ⟨A, c, he, hl, hr.imp_ (Below.refl _ _) (fun q cs hq => by subst hq; exact k67_mk w q)⟩
structure BV where
  b : Blk
  A : Option Addr
  c : Nat
def BV.cells (q : BV) : List Value := [.int .i64 q.b.f0, .int .i64 q.b.f1, .int .i64 q.b.f2, .int .i64 q.b.f3, .slice q.A q.b.f4.length q.c]
def BV.tv (q : BV) : Value := .slice q.A q.b.f4.length q.c
def flatB (l : List BV) : List Value := l.flatMap BV.cells
theorem flatB_len (l : List BV) : (flatB l).length = l.length * 5 := by
  induction l with
  | nil => rfl
  | cons q l ih => unfold flatB at *; rw [List.flatMap_cons, List.length_append, ih]; simp [BV.cells]; omega
theorem flatB_one (l : List BV) : ∀ u ∈ flatB l, u.oneCell' = true := by
  intro u hu
  obtain ⟨q, _, h⟩ := List.mem_flatMap.1 hu
  simp [BV.cells] at h
  rcases h with rfl | rfl | rfl | rfl | rfl <;> rfl
theorem flatB_get : ∀ (l : List BV) (j : Nat), (flatB l)[j]? = (l[j / 5]?).bind (fun q => q.cells[j % 5]?) := by
  intro l
  induction l with
  | nil => intro j; rfl
  | cons q l ih =>
    intro j
    unfold flatB at *
    rw [List.flatMap_cons]
    by_cases h : j < 5
    · rw [List.getElem?_append_left (by simpa [BV.cells] using h), show j / 5 = 0 by omega, show j % 5 = j by omega]; rfl
    · rw [List.getElem?_append_right (by simp [BV.cells]; omega), show q.cells.length = 5 from rfl, ih, show j / 5 = (j - 5) / 5 + 1 by omega, show j % 5 = (j - 5) % 5 by omega]; rfl
theorem flatB_append (l m : List BV) : flatB (l ++ m) = flatB l ++ flatB m := by simp [flatB]
theorem flatB_drop (l : List BV) (n : Nat) : (flatB l).drop (n * 5) = flatB (l.drop n) := by
  by_cases h : n ≤ l.length
  · conv => lhs; rw [← List.take_append_drop n l, flatB_append]
    rw [List.drop_left' (by rw [flatB_len]; simp [h])]
  · rw [List.drop_eq_nil_of_le (by rw [flatB_len]; omega), List.drop_eq_nil_of_le (by omega)]; rfl
theorem flatB_take (l : List BV) (n : Nat) : (flatB l).take (n * 5) = flatB (l.take n) := by
  by_cases h : n ≤ l.length
  · conv => lhs; rw [← List.take_append_drop n l, flatB_append]
    rw [List.take_left' (by rw [flatB_len]; simp [h])]
  · rw [List.take_of_length_le (by rw [flatB_len]; omega), List.take_of_length_le (by omega)]
theorem RowAt.blk {w : World} {cp : Nat} {A : Option Addr} {l : List BV} (h : RowAt w 35 5 (.slice A l.length cp) l.length (flatB l)) (j : Nat) (q : BV) (hq : l[j]? = some q) :
    ∃ ad, A = some ad ∧ w.cell? (ad.add (j * 5)) = some (.int .i64 q.b.f0) ∧ w.cell? ⟨(ad.add (j * 5)).block, (ad.add (j * 5)).off + 1, none⟩ = some (.int .i64 q.b.f1) ∧ w.cell? ⟨(ad.add (j * 5)).block, (ad.add (j * 5)).off + 2, none⟩ = some (.int .i64 q.b.f2) ∧
      w.cell? ⟨(ad.add (j * 5)).block, (ad.add (j * 5)).off + 3, none⟩ = some (.int .i64 q.b.f3) ∧ w.cell? ⟨(ad.add (j * 5)).block, (ad.add (j * 5)).off + 4, none⟩ = some (.slice q.A q.b.f4.length q.c) := by
  have g : ∀ i u, q.cells[i]? = some u → ∃ ad, A = some ad ∧ ad.spot = none ∧ w.cell? (ad.add (j * 5 + i)) = some u := fun i u hu => by
    have hi : i < 5 := (List.getElem?_eq_some_iff.1 hu).1
    refine Go.Np.RowAt.cell h (j * 5 + i) u ?_
    rw [flatB_get, show (j * 5 + i) / 5 = j by omega, show (j * 5 + i) % 5 = i by omega, hq]; exact hu
  obtain ⟨ad, rfl, hs, h0⟩ := g 0 _ rfl
  refine ⟨ad, rfl, h0, ?_, ?_, ?_, ?_⟩
  · obtain ⟨ad', e, _, h1⟩ := g 1 _ rfl; injection e with e; subst e; rw [← add_field _ _ 1 (by omega)] at *; exact h1
  · obtain ⟨ad', e, _, h1⟩ := g 2 _ rfl; injection e with e; subst e; rw [add_field _ _ 2 (by omega)] at h1; exact h1
  · obtain ⟨ad', e, _, h1⟩ := g 3 _ rfl; injection e with e; subst e; rw [add_field _ _ 3 (by omega)] at h1; exact h1
  · obtain ⟨ad', e, _, h1⟩ := g 4 _ rfl; injection e with e; subst e; rw [add_field _ _ 4 (by omega)] at h1; exact h1
end Go.Np.Tryz
set_option linter.unusedVariables false
set_option linter.unusedSimpArgs false
namespace Go.Np.Tryz
open Go.RowKit Go.Proofs Go.Proofs.YtlllhpnpgcphcaaGreat.PX Go.Proofs.YtlllhpnpgcphcaaGreatW.PrintWords
def TxsAt (X : Nat → Prop) (w : World) (q : BV) : Prop := w.ownsRow 0 67 2 q.tv q.b.f4.length (flatT q.b.f4) ∧ ∀ k ∈ q.tv.ownBlock.toList, ¬ X k
theorem TxsAt.fr {X : Nat → Prop} {w w' : World} {S : List Nat} {q : BV} (h : TxsAt X w q) (hf : Fr S w w') (hd : ∀ k ∈ q.tv.ownBlock.toList, k ∉ S) : TxsAt X w' q := ⟨row_fr h.1 hf hd, h.2⟩
theorem TxsAt.C {X : Nat → Prop} {w : World} {q : BV} (h : TxsAt X w q) : q.b.f4.length ≤ q.c ∧ k67.C w q.A q.b.f4.length q.b.f4 := by
  obtain ⟨A, c, e, h1, h2⟩ := flatT_C h.1
  unfold BV.tv at e
  injection e with e1 _ e3
  subst e1 e3
  exact ⟨h1, h2⟩
theorem TxsAt.ne {X : Nat → Prop} {w : World} {q : BV} (h : TxsAt X w q) {p : Nat} {cs : Array Value} {t : TypeId} {fz : Nat × Nat} (hp : w.heap[p]? = some (.cells cs t fz)) (hne : 67 ≠ t) : p ∉ q.tv.ownBlock.toList := row_ne_obj h.1 hp hne
theorem TxsAt.ne_map {X : Nat → Prop} {w : World} {q : BV} (h : TxsAt X w q) {p : Nat} {es : Array MapEntry} {cl : Nat} (hp : w.heap[p]? = some (.map es cl)) : p ∉ q.tv.ownBlock.toList := (RowAt.of_own h.1).ne_map hp
theorem TxsAt.grow {X X' : Nat → Prop} {w : World} {q : BV} (h : TxsAt X w q) (hX : ∀ k, X' k → k < w.heap.size → X k) : TxsAt X' w q := ⟨h.1, fun k hk hx => h.2 k hk (hX k hx (row_lt h.1 k hk))⟩
def knV (q : BV) (h : Int) : Value := .agg #[.int .i64 q.b.f0, .int .i64 q.b.f1, .int .i64 q.b.f2, .int .i64 q.b.f3, .slice q.A q.b.f4.length q.c, .int .i64 h]
def mOf (ds : List (BV × Kn)) : List (Int × Value) := ds.map fun d => (d.2.name, knV d.1 d.2.way.length)
structure TrIn (X : Nat → Prop) (w : World) (p : Nat) (t : Tr) (b : Nat) (v : Value) (ds : List (BV × Kn)) (qs : List BV) : Prop where
  hp : w.heap[p]? = some (.cells #[.map (some b), v] 88 (0, 0))
  hM : MapIs (fun a : Int => Value.int .i64 a) w b (mOf ds)
  hds : ds.map (·.2) = t.known
  hd : ∀ d ∈ ds, d.1.b = d.2.blk ∧ TxsAt X w d.1
  hv : RowAt w 35 5 v qs.length (flatB qs)
  hqs : qs.map (·.b) = t.wait
  hq : ∀ q ∈ qs, TxsAt X w q
  hX : ¬ X p ∧ ¬ X b ∧ ∀ k ∈ v.ownBlock.toList, ¬ X k
def TrAt (X : Nat → Prop) (w : World) (p : Nat) (t : Tr) : Prop := ∃ b v ds qs, TrIn X w p t b v ds qs
section
variable {X : Nat → Prop} {w w' : World} {p b : Nat} {t : Tr} {v : Value} {ds : List (BV × Kn)} {qs : List BV}
theorem TrIn.plt (h : TrIn X w p t b v ds qs) : p < w.heap.size := (Array.getElem?_eq_some_iff.1 h.hp).1
theorem TrIn.fr0 (h : TrIn X w p t b v ds qs) (hf : Fr [] w w') : TrIn X w' p t b v ds qs :=
  ⟨(hf.block p h.plt (by simp)).trans h.hp, h.hM.fr hf (by simp), h.hds, fun d hd => ⟨(h.hd d hd).1, (h.hd d hd).2.fr hf (by simp)⟩, h.hv.fr hf (by simp), h.hqs, fun q hq => (h.hq q hq).fr hf (by simp), h.hX⟩
theorem TrAt.fr (h : TrAt X w p t) (hf : Fr [] w w') : TrAt X w' p t := by
  obtain ⟨b, v, ds, qs, h⟩ := h
  exact ⟨b, v, ds, qs, h.fr0 hf⟩
theorem TrIn.frX {S : List Nat} (h : TrIn X w p t b v ds qs) (hf : Fr S w w') (hS : ∀ k ∈ S, X k ∨ w.heap.size ≤ k) : TrIn X w' p t b v ds qs := by
  have hn : ∀ k, k < w.heap.size → ¬ X k → k ∉ S := fun k hk hx hm => by rcases hS k hm with h1 | h1; exact hx h1; omega
  exact ⟨(hf.block p h.plt (hn _ h.plt h.hX.1)).trans h.hp, h.hM.fr hf (hn _ h.hM.lt h.hX.2.1), h.hds, fun d hd => ⟨(h.hd d hd).1, (h.hd d hd).2.fr hf (fun k hk => hn k (row_lt (h.hd d hd).2.1 k hk) ((h.hd d hd).2.2 k hk))⟩,
    h.hv.fr hf (fun k hk => hn k (h.hv.lt k hk) (h.hX.2.2 k hk)), h.hqs, fun q hq => (h.hq q hq).fr hf (fun k hk => hn k (row_lt (h.hq q hq).1 k hk) ((h.hq q hq).2 k hk)), h.hX⟩
theorem TrAt.frX {S : List Nat} (h : TrAt X w p t) (hf : Fr S w w') (hS : ∀ k ∈ S, X k ∨ w.heap.size ≤ k) : TrAt X w' p t := by
  obtain ⟨b, v, ds, qs, h⟩ := h
  exact ⟨b, v, ds, qs, h.frX hf hS⟩
theorem TrIn.grow {X' : Nat → Prop} (h : TrIn X w p t b v ds qs) (hX : ∀ k, X' k → k < w.heap.size → X k) : TrIn X' w p t b v ds qs :=
  ⟨h.hp, h.hM, h.hds, fun d hd => ⟨(h.hd d hd).1, (h.hd d hd).2.grow hX⟩, h.hv, h.hqs, fun q hq => (h.hq q hq).grow hX, fun hx => h.hX.1 (hX _ hx h.plt), fun hx => h.hX.2.1 (hX _ hx h.hM.lt), fun k hk hx => h.hX.2.2 k hk (hX _ hx (h.hv.lt k hk))⟩
theorem TrAt.grow {X' : Nat → Prop} (h : TrAt X w p t) (hX : ∀ k, X' k → k < w.heap.size → X k) : TrAt X' w p t := by
  obtain ⟨b, v, ds, qs, h⟩ := h
  exact ⟨b, v, ds, qs, h.grow hX⟩
theorem TrAt.later {S : List Nat} (h : TrAt X w p t) (hf : Fr S w w') (hS : ∀ k ∈ S, X k ∨ w.heap.size ≤ k) : TrAt (fun k => X k ∨ (w.heap.size ≤ k ∧ k < w'.heap.size)) w' p t := by
  have h1 := h.grow (X' := fun k => X k ∨ (w.heap.size ≤ k ∧ k < w'.heap.size)) (fun k hx hl => by rcases hx with hx | hx; exact hx; omega)
  exact h1.frX hf (fun k hk => (hS k hk).imp .inl id)
theorem find_ds (n : Int) : ∀ {ds : List (BV × Kn)} {t : Tr}, ds.map (·.2) = t.known → t.find n = (ds.find? fun d => decide (d.2.name = n)).map (·.2) := by
  intro ds t h
  unfold Tr.find
  rw [← h, List.find?_map]
  rfl
theorem alook_ds (n : Int) : ∀ (ds : List (BV × Kn)), alook (mOf ds) n = (ds.find? fun d => decide (d.2.name = n)).map (fun d => knV d.1 d.2.way.length)
  | [] => rfl
  | d :: ds => by
    unfold mOf
    rw [List.map_cons, List.find?_cons]
    unfold alook
    by_cases h : d.2.name = n
    · simp [h]
    · simp only [h, if_false, decide_false]
      exact alook_ds n ds
theorem keyI' : KeyOk Tryz.prog 3 (fun a : Int => Value.int .i64 a) := keyOk_int Tryz.underlying3
def zBV : BV := ⟨z35, none, 0⟩
theorem zeroK (w : World) : (zeroValue 122).run Tryz.prog w = .ok (knV zBV 0) w := by kernel_rfl
theorem TrIn.look (h : TrIn X w p t b v ds qs) (n : Int) : ∃ (q : BV) (hh : Int), (∀ c : Bool, (Instr.lookup 84 (.map (some b)) (.int .i64 n) c).run Tryz.prog w = .ok (if c then .tuple #[knV q hh, .bool (t.has n)] else knV q hh) w) ∧
    (∀ e, t.find n = some e → q.b = e.blk ∧ hh = e.way.length ∧ TxsAt X w q) ∧ (t.find n = none → q = zBV ∧ hh = 0) ∧ q.b.f4.length ≤ q.c ∧ k67.C w q.A q.b.f4.length q.b.f4 := by
  have hl := fun c => h.hM.run_lookup keyI' Tryz.underlying84 (zeroK w) n c
  rw [alook_ds] at hl
  have hf := find_ds n h.hds
  unfold Tr.has
  rw [hf]
  cases hd : ds.find? fun d => decide (d.2.name = n) with
  | none =>
    rw [hd] at hl
    refine ⟨zBV, 0, fun c => by simpa using hl c, by simp, by simp, Nat.le_refl _, ⟨rfl, Nat.zero_le _, fun h => absurd h (Nat.lt_irrefl 0)⟩⟩
  | some d =>
    rw [hd] at hl
    have hm := List.mem_of_find?_eq_some hd
    refine ⟨d.1, d.2.way.length, fun c => by simpa using hl c, ?_, by simp, (h.hd d hm).2.C.1, (h.hd d hm).2.C.2⟩
    intro e he
    simp at he
    subst he
    exact ⟨(h.hd d hm).1, rfl, (h.hd d hm).2⟩
end
set_option maxHeartbeats 1000000 in
set_option maxRecDepth 100000 in
theorem has_calls {X : Nat → Prop} {w : World} {p : Nat} {t : Tr} (h : TrAt X w p t) (n : Int) :
    Calls Tryz.prog 61 #[.pointer (some ⟨p, 0, none⟩), .int .i64 n] w fun e w' => e = .returned (.bool (t.has n)) ∧ Fr [] w w' := by
  obtain ⟨b, v, ds, qs, h⟩ := h
  have hc := cell_of h.hp 0
  simp at hc
  obtain ⟨q, hh, hl, _⟩ := h.look n
  replace hl := hl true
  simp only [if_true, knV] at hl
  refine calls_k fun R hR => ?_
  clear h
  go_enter Tryz.func61, Tryz.ntmps61
  go_wp2
  refine hR.out _ _ ⟨rfl, ?_⟩
  repeat (first | refine Fr.setCell ?_ (.inr (Nat.le_refl _)) _ | refine Fr.alloc ?_ _ | exact Fr.refl _ _)
set_option maxHeartbeats 1000000 in
set_option maxRecDepth 100000 in
theorem height_calls {X : Nat → Prop} {w : World} {p : Nat} {t : Tr} (h : TrAt X w p t) (n : Int) :
    Calls Tryz.prog 55 #[.pointer (some ⟨p, 0, none⟩), .int .i64 n] w fun e w' => e = .returned (.int .i64 (t.high n)) ∧ Fr [] w w' := by
  obtain ⟨b, v, ds, qs, h⟩ := h
  have hc := cell_of h.hp 0
  simp at hc
  obtain ⟨q, hh, hl, hs, _⟩ := h.look n
  replace hl := hl true
  have hv : t.high n = (if n = 0 then 0 else if t.has n = true then hh else -1) := by
    unfold Tr.high
    by_cases h0 : n = 0
    · simp [h0]
    · rw [if_neg h0, if_neg h0]
      by_cases h1 : t.has n = true
      · rw [if_pos h1, if_pos h1]
        obtain ⟨e, he⟩ := Option.isSome_iff_exists.1 h1
        rw [show t.path n = e.way from by unfold Tr.path; rw [he], (hs e he).2.1]
      · rw [if_neg h1, if_neg h1]
  simp only [if_true, knV] at hl
  refine calls_k fun R hR => ?_
  rw [hv] at hR
  clear h hv hs
  generalize t.has n = B at *
  go_enter Tryz.func55, Tryz.ntmps55
  obtain ⟨W, hW⟩ : ∃ W, W = w.alloc (.cells #[.int .i64 q.b.f0, .int .i64 q.b.f1, .int .i64 q.b.f2, .int .i64 q.b.f3, .slice q.A q.b.f4.length q.c, .int .i64 hh] 122) := ⟨_, rfl⟩
  obtain ⟨g, hg⟩ : ∃ g, g = w.heap.size := ⟨_, rfl⟩
  have hbl : W.heap[g]? = some (.cells #[.int .i64 q.b.f0, .int .i64 q.b.f1, .int .i64 q.b.f2, .int .i64 q.b.f3, .slice q.A q.b.f4.length q.c, .int .i64 hh] 122 (0, 0)) := by rw [hW, hg]; exact heap_alloc_new _ _
  have c5 := cell_of hbl 5
  simp at c5
  have hF : Fr [] w W := by rw [hW]; exact (Fr.refl _ _).alloc _
  clear hbl
  go_upto_region 2 with (fail)
  rw [← hW, ← hg]
  clear hW hg hl hc
  by_cases h0 : n = 0
  · subst h0
    go_wp2
    exact hR.out _ _ ⟨rfl, hF⟩
  · have h0b : (n == 0) = false := by simpa using h0
    rw [if_neg h0] at hR
    clear h0
    cases B with
    | false =>
      go_wp2
      exact hR.out _ _ ⟨rfl, hF⟩
    | true =>
      go_wp2
      exact hR.out _ _ ⟨rfl, hF⟩
set_option maxHeartbeats 1000000 in
set_option maxRecDepth 100000 in
theorem ready_calls {X : Nat → Prop} {w : World} {p : Nat} {t : Tr} (h : TrAt X w p t) (bl : Blk) (A : Option Addr) (c : Nat) :
    Calls Tryz.prog 72 #[.pointer (some ⟨p, 0, none⟩), blkV bl A c] w fun e w' => e = .returned (.bool (t.ready bl)) ∧ Fr [] w w' := by
  refine calls_k fun R hR => ?_
  unfold blkV
  obtain ⟨W, hW⟩ : ∃ W, W = w.alloc (.cells #[.int .i64 bl.f0, .int .i64 bl.f1, .int .i64 bl.f2, .int .i64 bl.f3, .slice A bl.f4.length c] 35) := ⟨_, rfl⟩
  obtain ⟨g, hg⟩ : ∃ g, g = w.heap.size := ⟨_, rfl⟩
  have hbl : W.heap[g]? = some (.cells #[.int .i64 bl.f0, .int .i64 bl.f1, .int .i64 bl.f2, .int .i64 bl.f3, .slice A bl.f4.length c] 35 (0, 0)) := by rw [hW, hg]; exact heap_alloc_new _ _
  have c3 := cell_of hbl 3
  simp at c3
  have hF : Fr [] w W := by rw [hW]; exact (Fr.refl _ _).alloc _
  have hH := Lib.hid (has_calls (h.fr hF) bl.f3)
  clear hbl h
  go_enter Tryz.func72, Tryz.ntmps72
  go_upto_region 1 with (fail)
  rw [← hW, ← hg]
  clear hW hg
  unfold Tr.ready at hR
  by_cases h0 : bl.f3 = 0
  · simp only [h0, decide_true, Bool.true_or] at hR
    rw [h0] at c3
    clear h0 hH
    go_wp2
    exact hR.out _ _ ⟨rfl, hF⟩
  · have h0b : (bl.f3 == 0) = false := by simpa using h0
    simp only [h0, decide_false, Bool.false_or] at hR
    clear h0
    go_wp2_with (go_at_call 61; refine hH.out.mono ?_; rintro e w1 ⟨rfl, hF1⟩)
    exact hR.out _ _ ⟨rfl, hF.trans hF1 (by simp)⟩
end Go.Np.Tryz
set_option linter.unusedVariables false
set_option linter.unusedSimpArgs false
namespace Go.Np.Tryz
open Go.RowKit Go.Proofs Go.Proofs.YtlllhpnpgcphcaaGreat.PX Go.Proofs.YtlllhpnpgcphcaaGreatW.PrintWords
theorem infoI : (Tryz.prog.info? 3).map (fun i => (i.zero, i.size, i.bytes)) = some (some (.int .i64 0), 1, 8) := by kernel_rfl
def OwnI (base : Nat) (w : World) (v : Value) (l : List Int) : Prop := w.ownsRow 0 3 1 v l.length (l.map (Value.int .i64)) ∧ ∀ k ∈ v.ownBlock.toList, base ≤ k
theorem OwnI.fr {base : Nat} {w w' : World} {v : Value} {l : List Int} {S : List Nat} (h : OwnI base w v l) (hf : Fr S w w') (hd : ∀ k ∈ v.ownBlock.toList, k ∉ S) : OwnI base w' v l := ⟨row_fr h.1 hf hd, h.2⟩
theorem OwnI.nil (base : Nat) (w : World) : OwnI base w (.slice none 0 0) [] := ⟨World.ownsRow_nil _ _ _ _, by simp [Value.ownBlock]⟩
def SlI (w : World) (v : Value) (l : List Int) : Prop := ∃ A c, v = .slice A l.length c ∧ l.length ≤ c ∧ (Kd.int .i64).C w A l.length l
theorem SlI.fr {w w' : World} {v : Value} {l : List Int} (h : SlI w v l) (hF : Fr [] w w') : SlI w' v l := by
  obtain ⟨A, c, h1, h2, h3⟩ := h
  exact ⟨A, c, h1, h2, Kd.C_below h3 hF.below⟩
theorem OwnI.sl {base : Nat} {w : World} {v : Value} {l : List Int} (h : OwnI base w v l) : SlI w v l := by
  have hr : Reps (fun (q : Int) cs => cs = [Value.int .i64 q]) 1 l (l.map (Value.int .i64)) := by
    have : ∀ l : List Int, Reps (fun (q : Int) cs => cs = [Value.int .i64 q]) 1 l (l.map (Value.int .i64)) := by
      intro l
      induction l with
      | nil => exact Reps.none _ _
      | cons q l ih =>
        have h1 : Reps (fun (q : Int) cs => cs = [Value.int .i64 q]) 1 [q] [Value.int .i64 q] := by simpa using (Reps.none (fun (q : Int) cs => cs = [Value.int .i64 q]) 1).snoc (p := q) rfl rfl
        have := Kd.reps_append h1 ih
        simpa using this
    exact this l
  obtain ⟨A, c, he, hl, hc⟩ := OwnRow.reads (R := fun (q : Int) cs => cs = [Value.int .i64 q]) ⟨_, h.1, hr⟩
  exact ⟨A, c, he, hl, hc.imp_ (Below.refl _ _) (fun q cs hq => by subst hq; rfl)⟩
set_option maxHeartbeats 2000000 in
set_option maxRecDepth 100000 in
theorem waiting_calls {X : Nat → Prop} {w : World} {p : Nat} {t : Tr} (h : TrAt X w p t) (hlen : t.wait.length ≤ 100000) :
    Calls Tryz.prog 71 #[.pointer (some ⟨p, 0, none⟩)] w fun e w' => ∃ v, e = .returned v ∧ OwnI w.heap.size w' v (t.wait.map nameB) ∧ Fr [] w w' := by
  obtain ⟨b, v, ds, qs, h⟩ := h
  obtain ⟨A, c, rfl, hc⟩ := h.hv.form
  have hc1 := cell_of h.hp 1
  simp at hc1
  have hqs := h.hqs
  have hlq : qs.length ≤ 100000 := by rw [← hqs] at hlen; simpa using hlen
  rw [← hqs, List.map_map]
  have HH := Lib.hid h
  refine calls_k fun R hR => ?_
  clear h hqs hlen
  go_enter Tryz.func71, Tryz.ntmps71
  go_upto_region 3 with (fail)
  clear hc1
  go_loopg [3, 12] qs.length (fun gn o i wr => ∃ (m j : Nat) (D : Option Addr) (cp : Nat), m = gn ∧ m + j = qs.length ∧ o = .slice D j cp ∧ i = .int .i64 j ∧ Hid (OwnI w.heap.size wr (.slice D j cp) ((qs.take j).map (fun q => nameB q.b))) ∧ Hid (Fr [] w wr))
  case atStart => exact ⟨_, 0, none, 0, rfl, rfl, rfl, rfl, OwnI.nil _ _, Fr.refl _ _⟩
  case round =>
    obtain ⟨m, j, D, cp, rfl, hj, rfl, rfl, HO, HF⟩ := hrel
    by_cases hlt : j < qs.length
    · have hr := HH.out.fr0 HF.out
      obtain ⟨q, hq⟩ : ∃ q, qs[j]? = some q := ⟨_, List.getElem?_eq_getElem hlt⟩
      obtain ⟨ad, rfl, c0, c1, c2, c3, c4⟩ := Go.Np.Tryz.RowAt.blk hr.hv j q hq
      have hT := hr.hq q (List.mem_of_getElem? hq)
      have htake : qs.take (j + 1) = qs.take j ++ [q] := by rw [List.take_add_one, hq]; rfl
      obtain ⟨W8, hW8⟩ : ∃ W8, W8 = wr.alloc (.cells #[.int .i64 q.b.f0, .int .i64 q.b.f1, .int .i64 q.b.f2, .int .i64 q.b.f3, .slice q.A q.b.f4.length q.c] 35) := ⟨_, rfl⟩
      obtain ⟨g, hg⟩ : ∃ g, g = wr.heap.size := ⟨_, rfl⟩
      have hbl : W8.heap[g]? = some (.cells #[.int .i64 q.b.f0, .int .i64 q.b.f1, .int .i64 q.b.f2, .int .i64 q.b.f3, .slice q.A q.b.f4.length q.c] 35 (0, 0)) := by rw [hW8, hg]; exact heap_alloc_new _ _
      have e0 := cell_of hbl 0
      have e1 := cell_of hbl 1
      have e2 := cell_of hbl 2
      have e3 := cell_of hbl 3
      have e4 := cell_of hbl 4
      simp at e0 e1 e2 e3 e4
      have hF8 : Fr [] wr W8 := by rw [hW8]; exact (Fr.refl _ _).alloc _
      have hT8 := hT.fr hF8 (by simp)
      have HN := Lib.hid (name_calls q.b q.A q.c hT8.C.2 hT8.C.1)
      simp only [blkV] at HN
      have HF8 := Lib.hid hF8
      have HT := Lib.hid htake
      have hb63 : j < maxLen := by unfold maxLen; omega
      have hb8 : (j + 1) * 8 ≤ 140737488355328 := by omega
      have hlj : ((qs.take j).map (fun q => nameB q.b)).length = j := by simp; omega
      have hrow : W8.ownsRow 0 3 1 (.slice D j cp) j (((qs.take j).map (fun q => nameB q.b)).map (Value.int .i64)) := by
        have h1 := (HO.out.fr hF8 (by simp)).1
        rw [hlj] at h1
        exact h1
      have HR := Lib.hid hrow
      clear hr hq hT hbl hF8 hT8 htake hlj hrow
      go_upto_region 5 with (fail)
      rw [← hW8, ← hg]
      clear hW8 hg c0 c1 c2 c3 c4
      go_wp2_with (first
        | (go_at_call 70; refine HN.out.mono ?_; rintro e w1 ⟨rfl, hB1⟩; have hF1 := Fr.of_below [] hB1; have hr1 := row_fr HR.out hF1 (by simp); have HF1 := Lib.hid hF1; clear hF1 hB1 e0 e1 e2 e3 e4)
        | (at_builtin; refine wp_append1 rfl _ _ 22 3 rfl Tryz.underlying22 infoI rfl (by decide) hr1 rfl [.int .i64 (nameB q.b)] rfl rfl (by simp [Value.oneCell']) hb63 hb8 ?_; intro A7 c7 w7 hr7 hF7 hN7; have HR7 := Lib.hid hr7; have HF7 := Lib.hid hF7; have HN7 := Lib.hid hN7; clear hr7 hF7 hN7 hr1))
      have hsz : wr.heap.size ≤ w1.heap.size := Nat.le_trans HF8.out.size HF1.out.size
      have hbase : ∀ k ∈ (Value.slice D j cp).ownBlock.toList, w.heap.size ≤ k := HO.out.2
      have hF17 : Fr [] w w7 := ((HF.out.trans HF8.out (by simp)).trans HF1.out (by simp)).trans HF7.out (fun k hk => .inr (hbase k hk))
      have hO7 : OwnI w.heap.size w7 (.slice A7 (j + 1) c7) ((qs.take (j + 1)).map (fun q => nameB q.b)) := by
        refine ⟨?_, fun k hk => ?_⟩
        · have h1 := HR7.out
          rw [HT.out]
          simpa [Nat.min_eq_left (Nat.le_of_lt hlt)] using h1
        · rcases HN7.out k hk with h1 | h1
          · exact hbase k h1
          · exact Nat.le_trans (Nat.le_trans HF.out.size hsz) h1
      have HF17 := Lib.hid hF17
      have HO7 := Lib.hid hO7
      clear hF17 hO7 hbase
      obtain ⟨gm, rfl⟩ : ∃ gm, m = gm + 1 := ⟨m - 1, by omega⟩
      go_roundg gm
      case rel => exact ⟨gm, j + 1, A7, c7, rfl, by omega, rfl, by go_num, HO7, HF17⟩
      case measure => omega
    · obtain rfl : j = qs.length := by omega
      have hO := HO.out
      rw [List.take_length] at hO
      clear HO
      go_wp2
      exact hR.out _ _ ⟨_, rfl, hO, HF.out⟩
end Go.Np.Tryz
set_option linter.unusedVariables false
set_option linter.unusedSimpArgs false
namespace Go.Np
open Go.RowKit
theorem lt_cell {w : World} {a : Addr} {v : Value} (h : w.cell? a = some v) : a.block < w.heap.size := by
  unfold World.cell? at h
  cases hb : w.heap[a.block]? with
  | none => rw [hb] at h; cases h
  | some o => exact (Array.getElem?_eq_some_iff.1 hb).1
theorem cellF {w w' : World} (hF : Fr [] w w') {a : Addr} {v : Value} (h : w.cell? a = some v) : w'.cell? a = some v := (hF.cell (lt_cell h) (by simp)).trans h
theorem results_ct {P : Program} {fn : Func} {p u : Tmp} {ty : TypeId} (h : fn.results = #[.cell p ty, .tmp u]) (tmps : Array Value) (w : World) (g : Nat) (t : TypeId) (cs : Array Value) (fr : Nat × Nat) (d : TypeDesc)
    (hp : tmps.getD p undef = .pointer (some ⟨g, 0, none⟩)) (hg : w.heap[g]? = some (.cells cs t fr))
    (hu : P.underlying ty = some d) (hd : (match d with | .struct _ | .array _ _ => true | _ => false) = true) (hi : (P.info? ty).map (·.size) = some cs.size) :
    (results fn tmps).run P w = .ok (.tuple #[.agg cs, tmps.getD u undef]) w := by
  have hp' : tmps[p]?.getD undef = .pointer (some ⟨g, 0, none⟩) := by simpa using hp
  simp [results, h, hp', asAddr, run_loadVar_row w g t ty cs fr d hg hu hd hi]
theorem five_put {w : World} {b : Nat} {x0 x1 x2 x3 x4 : Value} {t : TypeId} (h : w.heap[b]? = some (.cells #[x0, x1, x2, x3, x4] t (0, 0))) (u0 u1 u2 u3 u4 : Value) :
    (((((w.setCell ⟨b, 0, none⟩ u0).setCell ⟨b, 1, none⟩ u1).setCell ⟨b, 2, none⟩ u2).setCell ⟨b, 3, none⟩ u3).setCell ⟨b, 4, none⟩ u4).heap[b]? = some (.cells #[u0, u1, u2, u3, u4] t (0, 0)) := by
  have h1 := obj_set h 0 u0
  have h2 := obj_set h1 1 u1
  have h3 := obj_set h2 2 u2
  have h4 := obj_set h3 3 u3
  have h5 := obj_set h4 4 u4
  simpa using h5
end Go.Np
namespace Go.Np.Tryz
open Go.RowKit Go.Proofs Go.Proofs.YtlllhpnpgcphcaaGreat.PX Go.Proofs.YtlllhpnpgcphcaaGreatW.PrintWords
set_option maxHeartbeats 2000000 in
set_option maxRecDepth 100000 in
theorem clone_tx {w : World} (q : BV) (h : k67.C w q.A q.b.f4.length q.b.f4) (hl : q.b.f4.length ≤ 8796093022208) :
    Calls Tryz.prog 46 #[.slice q.A q.b.f4.length q.c] w fun e w' => ∃ A' c', e = .returned (.slice A' q.b.f4.length c') ∧ w'.ownsRow 0 67 2 (.slice A' q.b.f4.length c') q.b.f4.length (flatT q.b.f4) ∧
      (∀ k ∈ (Value.slice A' q.b.f4.length c').ownBlock.toList, w.heap.size ≤ k) ∧ Fr [] w w' := by
  obtain ⟨⟨f0, f1, f2, f3, l⟩, A, c⟩ := q
  simp only at h hl ⊢
  refine calls_k fun R hR => ?_
  cases A with
  | none =>
    have hl0 : l = [] := by
      cases l with
      | nil => rfl
      | cons x l => obtain ⟨ad, e, _⟩ := h.2.2 (by simp); cases e
    subst hl0
    clear h hl
    have hq : ∀ (w : World) (a : Option Addr) (n c n' c' : Nat), (binOp .eql 33 (.slice a n c) (.slice none n' c')).run Tryz.prog w = .ok (.bool a.isNone) w := fun w a n c n' c' => Lib.run_eql_slice_nil w _ _ a n c n' c' Tryz.underlying33
    go_enter Tryz.func46, Tryz.ntmps46
    go_wp2
    exact hR.out _ _ ⟨none, 0, rfl, World.ownsRow_nil _ _ _ _, by simp [Value.ownBlock], Fr.refl _ _⟩
  | some ad =>
    have HC := Lib.hid (flatT_cells (Kd.C_below h (((Fr.refl [] w).alloc (.cells #[] 67)).below)))
    have hown5 : (w.alloc (.cells #[] 67)).ownsRow 0 67 2 (.slice (some ⟨w.heap.size, 0, none⟩) 0 0) 0 [] := World.ownsRow_made w #[] 0 (Nat.zero_le _) (by unfold maxLen; omega) rfl
    have HO5 := Lib.hid hown5
    have hb1 : 0 + l.length ≤ maxLen := by unfold maxLen; omega
    have hb2 : (0 + l.length) * 16 ≤ 140737488355328 := by omega
    clear h hown5 hl
    have hq : ∀ (w : World) (a : Option Addr) (n c n' c' : Nat), (binOp .eql 33 (.slice a n c) (.slice none n' c')).run Tryz.prog w = .ok (.bool a.isNone) w := fun w a n c n' c' => Lib.run_eql_slice_nil w _ _ a n c n' c' Tryz.underlying33
    go_enter Tryz.func46, Tryz.ntmps46
    go_wp2_with (at_builtin; refine wp_appendS rfl _ _ 33 67 rfl Tryz.underlying33 info67 rfl (by decide) HO5.out rfl ad l.length c (flatT l) rfl (flatT_len l) HC.out (flatT_one l) hb1 hb2 ?_; intro A5 c5 w6 hr6 hF6 hN6; simp only [Nat.zero_add, List.nil_append] at hr6 hN6 ⊢)
    refine hR.out _ _ ⟨A5, c5, rfl, hr6, fun k hk => ?_, ?_⟩
    · rcases hN6 k hk with h1 | h1
      · simp [Value.ownBlock] at h1; omega
      · simp at h1; omega
    · exact ((Fr.refl [] w).alloc _).trans hF6 (fun k hk => .inr (by simp [Value.ownBlock] at hk; omega))
set_option maxHeartbeats 2000000 in
set_option maxRecDepth 100000 in
theorem clone_blk {w : World} {A : Option Addr} {c : Nat} (l : List BV) (h : RowAt w 35 5 (.slice A l.length c) l.length (flatB l)) (hl : l.length ≤ 100000) :
    Calls Tryz.prog 97 #[.slice A l.length c] w fun e w' => ∃ A' c', e = .returned (.slice A' l.length c') ∧ w'.ownsRow 0 35 5 (.slice A' l.length c') l.length (flatB l) ∧
      (∀ k ∈ (Value.slice A' l.length c').ownBlock.toList, w.heap.size ≤ k) ∧ Fr [] w w' := by
  refine calls_k fun R hR => ?_
  cases A with
  | none =>
    have hl0 : l = [] := by
      cases l with
      | nil => rfl
      | cons x l => obtain ⟨ad, e, _⟩ := Go.Np.Tryz.RowAt.blk h 0 x rfl; cases e
    subst hl0
    clear h hl
    have hq : ∀ (w : World) (a : Option Addr) (n c n' c' : Nat), (binOp .eql 28 (.slice a n c) (.slice none n' c')).run Tryz.prog w = .ok (.bool a.isNone) w := fun w a n c n' c' => Lib.run_eql_slice_nil w _ _ a n c n' c' Tryz.underlying28
    go_enter Tryz.func97, Tryz.ntmps97
    go_wp2
    exact hR.out _ _ ⟨none, 0, rfl, World.ownsRow_nil _ _ _ _, by simp [Value.ownBlock], Fr.refl _ _⟩
  | some ad =>
    have hcs : ∀ j u, (flatB l)[j]? = some u → (w.alloc (.cells #[] 35)).cell? (ad.add j) = some u := fun j u hu => by
      obtain ⟨ad', e, _, hc⟩ := Go.Np.RowAt.cell h j u hu
      injection e with e
      subst e
      exact cellF ((Fr.refl [] w).alloc _) hc
    have HC := Lib.hid hcs
    have hown5 : (w.alloc (.cells #[] 35)).ownsRow 0 35 5 (.slice (some ⟨w.heap.size, 0, none⟩) 0 0) 0 [] := World.ownsRow_made w #[] 0 (Nat.zero_le _) (by unfold maxLen; omega) rfl
    have HO5 := Lib.hid hown5
    have hb1 : 0 + l.length ≤ maxLen := by unfold maxLen; omega
    have hb2 : (0 + l.length) * 56 ≤ 140737488355328 := by omega
    clear h hown5 hl hcs
    have hq : ∀ (w : World) (a : Option Addr) (n c n' c' : Nat), (binOp .eql 28 (.slice a n c) (.slice none n' c')).run Tryz.prog w = .ok (.bool a.isNone) w := fun w a n c n' c' => Lib.run_eql_slice_nil w _ _ a n c n' c' Tryz.underlying28
    go_enter Tryz.func97, Tryz.ntmps97
    go_wp2_with (at_builtin; refine wp_appendS rfl _ _ 28 35 rfl Tryz.underlying28 info35 rfl (by decide) HO5.out rfl ad l.length c (flatB l) rfl (flatB_len l) HC.out (flatB_one l) hb1 hb2 ?_; intro A5 c5 w6 hr6 hF6 hN6; simp only [Nat.zero_add, List.nil_append] at hr6 hN6 ⊢)
    refine hR.out _ _ ⟨A5, c5, rfl, hr6, fun k hk => ?_, ?_⟩
    · rcases hN6 k hk with h1 | h1
      · simp [Value.ownBlock] at h1; omega
      · simp at h1; omega
    · exact ((Fr.refl [] w).alloc _).trans hF6 (fun k hk => .inr (by simp [Value.ownBlock] at hk; omega))
def Copied (w w' : World) (b : Blk) (e : Ending) : Prop := ∃ A' c', e = .returned (blkV b A' c') ∧ w'.ownsRow 0 67 2 (.slice A' b.f4.length c') b.f4.length (flatT b.f4) ∧
      (∀ k ∈ (Value.slice A' b.f4.length c').ownBlock.toList, w.heap.size ≤ k) ∧ Fr [] w w'
set_option maxHeartbeats 2000000 in
set_option maxRecDepth 100000 in
theorem copy_calls {w : World} (q : BV) (h : k67.C w q.A q.b.f4.length q.b.f4) (hl : q.b.f4.length ≤ 8796093022208) :
    Calls Tryz.prog 15 #[blkV q.b q.A q.c] w fun e w' => Copied w w' q.b e := by
  unfold Copied blkV
  refine calls_k fun R hR => ?_
  obtain ⟨W, hW⟩ : ∃ W, W = (w.alloc (.cells #[.int .i64 q.b.f0, .int .i64 q.b.f1, .int .i64 q.b.f2, .int .i64 q.b.f3, .slice q.A q.b.f4.length q.c] 35)).alloc (.cells #[.int .i64 0, .int .i64 0, .int .i64 0, .int .i64 0, .slice none 0 0] 35) := ⟨_, rfl⟩
  obtain ⟨g, hg⟩ : ∃ g, g = w.heap.size := ⟨_, rfl⟩
  have hF : Fr [] w W := by rw [hW]; exact ((Fr.refl _ _).alloc _).alloc _
  have hb1 : W.heap[g]? = some (.cells #[.int .i64 q.b.f0, .int .i64 q.b.f1, .int .i64 q.b.f2, .int .i64 q.b.f3, .slice q.A q.b.f4.length q.c] 35 (0, 0)) := by rw [hW, hg, Below.heap_alloc _ _ _ (by simp)]; exact heap_alloc_new _ _
  have hb2 : W.heap[g + 1]? = some (.cells #[.int .i64 0, .int .i64 0, .int .i64 0, .int .i64 0, .slice none 0 0] 35 (0, 0)) := by
    rw [hW, hg]
    have := heap_alloc_new (w.alloc (.cells #[.int .i64 q.b.f0, .int .i64 q.b.f1, .int .i64 q.b.f2, .int .i64 q.b.f3, .slice q.A q.b.f4.length q.c] 35)) (.cells #[.int .i64 0, .int .i64 0, .int .i64 0, .int .i64 0, .slice none 0 0] 35)
    simpa using this
  have HC := Lib.hid (clone_tx q (Kd.C_below h hF.below) hl)
  have c4 := cell_of hb1 4
  simp at c4
  have HF := Lib.hid hF
  have HB1 := Lib.hid hb1
  have HB2 := Lib.hid hb2
  have hgw : w.heap.size ≤ g := Nat.le_of_eq hg.symm
  clear h hl hF hb1 hb2
  go_enter Tryz.func15, Tryz.ntmps15
  go_upto_region 1 with (fail)
  rw [← hW, ← hg]
  clear hW hg
  go_wp2_with (go_at_call 46; refine HC.out.mono ?_; rintro e w1 ⟨A', c', rfl, h1, h2, h3⟩; have hb1 := (h3.block _ (Array.getElem?_eq_some_iff.1 HB1.out).1 (by simp)).trans HB1.out; have d0 := cell_of hb1 0; have d1 := cell_of hb1 1; have d2 := cell_of hb1 2; have d3 := cell_of hb1 3; have d4 := cell_of hb1 4; simp at d0 d1 d2 d3 d4; have hb2 := (h3.block _ (Array.getElem?_eq_some_iff.1 HB2.out).1 (by simp)).trans HB2.out; have f0 := cell_of hb2 0; have f1 := cell_of hb2 1; have f2 := cell_of hb2 2; have f3 := cell_of hb2 3; have f4 := cell_of hb2 4; simp at f0 f1 f2 f3 f4; have y4 := froz_of hb1 4; have z0 := froz_of hb2 0; have z1 := froz_of hb2 1; have z2 := froz_of hb2 2; have z3 := froz_of hb2 3; have z4 := froz_of hb2 4; have H1 := Lib.hid h1; have H2 := Lib.hid h2; have H3 := Lib.hid h3; have HB2' := Lib.hid hb2; clear h1 h2 h3 hb1 hb2 c4)
  have hb3 := five_put (((set_far w1 (a := ⟨g, 4, none⟩) (by show g + 1 ≠ g; omega) (.slice A' q.b.f4.length c'))).trans HB2'.out) (.int .i64 q.b.f0) (.int .i64 q.b.f1) (.int .i64 q.b.f2) (.int .i64 q.b.f3) (.slice A' q.b.f4.length c')
  have hs : Fr [] w ((((((w1.setCell ⟨g, 4, none⟩ (.slice A' q.b.f4.length c')).setCell ⟨g + 1, 0, none⟩ (.int .i64 q.b.f0)).setCell ⟨g + 1, 1, none⟩ (.int .i64 q.b.f1)).setCell ⟨g + 1, 2, none⟩ (.int .i64 q.b.f2)).setCell ⟨g + 1, 3, none⟩ (.int .i64 q.b.f3)).setCell ⟨g + 1, 4, none⟩ (.slice A' q.b.f4.length c')) :=
    ((((((HF.out.trans H3.out (by simp)).setCell (.inr (by simpa using hgw)) _).setCell (.inr (by show w.heap.size ≤ g + 1; omega)) _).setCell (.inr (by show w.heap.size ≤ g + 1; omega)) _).setCell (.inr (by show w.heap.size ≤ g + 1; omega)) _).setCell (.inr (by show w.heap.size ≤ g + 1; omega)) _).setCell (.inr (by show w.heap.size ≤ g + 1; omega)) _
  refine bodyPost_ret (results_cell_row rfl _ _ (g + 1) 35 _ (0, 0) _ rfl hb3 Tryz.underlying35 rfl (by kernel_rfl)) rfl ?_
  refine hR.out _ _ ⟨A', c', rfl, ?_, fun k hk => Nat.le_trans HF.out.size (H2.out k hk), hs⟩
  refine row_fr H1.out (S := [g, g + 1]) (Fr.setCell (Fr.setCell (Fr.setCell (Fr.setCell (Fr.setCell (Fr.setCell (Fr.refl _ w1) (.inl (by simp)) _) (.inl (by simp)) _) (.inl (by simp)) _) (.inl (by simp)) _) (.inl (by simp)) _) (.inl (by simp)) _) (fun k hk hm => ?_)
  have h5 := H2.out k hk
  have h6 := (Array.getElem?_eq_some_iff.1 HB1.out).1
  have h7 := (Array.getElem?_eq_some_iff.1 HB2.out).1
  simp at hm
  omega
end Go.Np.Tryz
set_option linter.unusedVariables false
set_option linter.unusedSimpArgs false
namespace Go.Np
open Go.RowKit
def FrX (X : Nat → Prop) (w w' : World) : Prop := ∃ S : List Nat, Fr S w w' ∧ ∀ k ∈ S, ¬ X k
theorem FrX.of0 {X : Nat → Prop} {w w' : World} (h : Fr [] w w') : FrX X w w' := ⟨[], h, by simp⟩
theorem FrX.trans {X : Nat → Prop} {a b c : World} (h : FrX X a b) (k : FrX X b c) : FrX X a c := by
  obtain ⟨S, h1, h2⟩ := h
  obtain ⟨T, k1, k2⟩ := k
  exact ⟨S ++ T, (h1.mono (fun x hx => .inl (by simp [hx]))).trans (k1.mono (fun x hx => .inl (List.mem_append_right S hx))) (fun x hx => .inl hx), fun x hx => by
    rcases List.mem_append.1 hx with hx | hx
    · exact h2 x hx
    · exact k2 x hx⟩
theorem FrX.size {X : Nat → Prop} {a b : World} (h : FrX X a b) : a.heap.size ≤ b.heap.size := by obtain ⟨S, h1, _⟩ := h; exact h1.size
theorem FrX.block {X : Nat → Prop} {a b : World} (h : FrX X a b) {k : Nat} (hk : k < a.heap.size) (hx : X k) : b.heap[k]? = a.heap[k]? := by obtain ⟨S, h1, h2⟩ := h; exact h1.block k hk (fun hm => h2 k hm hx)
theorem FrX.weak {X Y : Nat → Prop} {a b : World} (h : FrX X a b) (hY : ∀ k, Y k → X k) : FrX Y a b := by obtain ⟨S, h1, h2⟩ := h; exact ⟨S, h1, fun k hk hy => h2 k hk (hY k hy)⟩
end Go.Np
namespace Go.Np.Tryz
open Go.RowKit Go.Proofs Go.Proofs.YtlllhpnpgcphcaaGreat.PX Go.Proofs.YtlllhpnpgcphcaaGreatW.PrintWords
section
variable {X : Nat → Prop} {w w' : World} {p b : Nat} {t : Tr} {v : Value} {ds : List (BV × Kn)} {qs : List BV}
theorem TrIn.ds_len (h : TrIn X w p t b v ds qs) : (mOf ds).length = t.known.length := by rw [← h.hds]; simp [mOf]
theorem TrIn.put (h : TrIn X w p t b v ds qs) (hf : Fr [b] w w') (q : BV) (e : Kn) (hM : MapIs (fun a : Int => Value.int .i64 a) w' b (mOf ds ++ [(e.name, knV q e.way.length)])) (hq : q.b = e.blk) (hT : TxsAt X w q) : TrIn X w' p ⟨t.known ++ [e], t.wait⟩ b v (ds ++ [(q, e)]) qs := by
  obtain ⟨es, cl, hb, _⟩ := h.hM
  have hpb : p ≠ b := by rintro rfl; have := h.hp; rw [hb] at this; cases this
  refine ⟨(hf.block p h.plt (by simpa using hpb)).trans h.hp, by simpa [mOf] using hM, by simp [h.hds], ?_, ?_, h.hqs, ?_, h.hX⟩
  · intro d hd
    rcases List.mem_append.1 hd with hd | hd
    · exact ⟨(h.hd d hd).1, (h.hd d hd).2.fr hf (fun k hk hm => (h.hd d hd).2.ne_map hb (by simp at hm; rw [← hm]; exact hk))⟩
    · have : d = (q, e) := by simpa using hd
      subst this
      exact ⟨hq, hT.fr hf (fun k hk hm => hT.ne_map hb (by simp at hm; rw [← hm]; exact hk))⟩
  · exact h.hv.fr hf (fun k hk hm => h.hv.ne_map hb (by simp at hm; rw [← hm]; exact hk))
  · intro r hr
    exact (h.hq r hr).fr hf (fun k hk hm => (h.hq r hr).ne_map hb (by simp at hm; rw [← hm]; exact hk))
end
theorem iwr (n : Int) (h : -9223372036854775808 ≤ n ∧ n ≤ 9223372036854775807) : IntKind.i64.wrap n = n := by
  simp [IntKind.wrap, IntKind.bits, IntKind.signed]; omega
theorem len_map {w : World} {b : Nat} {es : Array MapEntry} {cl : Nat} (hb : w.heap[b]? = some (.map es cl)) (ty : TypeId) : (Builtin.len_ #[84] ty #[.map (some b)]).run Tryz.prog w = .ok (.int .i64 es.size) w :=
  run_len_map w 84 ty b es cl (by kernel_rfl) hb
theorem Tr.Ok.high_parent {t : Tr} (hO : t.Ok) {bl : Blk} (hr : t.ready bl = true) : t.high bl.f3 + 1 = ((t.path bl.f3 ++ [nameB bl]).length : Int) := by
  unfold Tr.ready at hr
  unfold Tr.high
  by_cases h0 : bl.f3 = 0
  · rw [if_pos h0, h0, hO.path_zero]; rfl
  · rw [if_neg h0]
    have h1 : t.has bl.f3 = true := by simpa [h0] using hr
    rw [if_pos h1]; simp
set_option maxHeartbeats 4000000 in
set_option maxRecDepth 100000 in
theorem grow_full {X : Nat → Prop} {w : World} {p : Nat} {t : Tr} (h : TrAt X w p t) (q : BV) (hroom : t.room = false) :
    Calls Tryz.prog 74 #[.pointer (some ⟨p, 0, none⟩), blkV q.b q.A q.c] w fun e w' => e = .returned (.bool false) ∧ Fr [] w w' := by
  obtain ⟨b, v, ds, qs, h⟩ := h
  unfold blkV
  refine calls_k fun R hR => ?_
  have hF : Fr [] w (w.alloc (.cells #[.int .i64 q.b.f0, .int .i64 q.b.f1, .int .i64 q.b.f2, .int .i64 q.b.f3, .slice q.A q.b.f4.length q.c] 35)) := (Fr.refl _ _).alloc _
  have h1 := h.fr0 hF
  have hc := cell_of h1.hp 0
  simp at hc
  obtain ⟨es, cl, hb, hme, _⟩ := h1.hM
  have hsz : es.size = t.known.length := by
    have := congrArg List.length hme
    rw [← h1.ds_len]
    simpa using this
  have hge : (400 : Int) ≤ (es.size : Int) := by
    simp [Tr.room] at hroom; omega
  have hlen := fun ty => len_map hb ty
  clear h1 hme h
  go_enter Tryz.func74, Tryz.ntmps74
  go_wp2
  exact hR.out _ _ ⟨rfl, hF⟩
set_option maxHeartbeats 4000000 in
set_option maxRecDepth 100000 in
theorem grow_calls {X : Nat → Prop} {w : World} {p : Nat} {t : Tr} (h : TrAt X w p t) (hO : t.Ok) (q : BV) (hT : TxsAt X w q) (hroom : t.room = true) (hr : t.ready q.b = true) (hk : t.has (nameB q.b) = false) (hpl : (t.path q.b.f3).length ≤ 100000) :
    Calls Tryz.prog 74 #[.pointer (some ⟨p, 0, none⟩), blkV q.b q.A q.c] w fun e w' => e = .returned (.bool true) ∧ TrAt X w' p (t.grow q.b) ∧ FrX X w w' ∧ TxsAt X w' q := by
  obtain ⟨b, v, ds, qs, h⟩ := h
  unfold blkV
  refine calls_k fun R hR => ?_
  obtain ⟨W, hW⟩ : ∃ W, W = w.alloc (.cells #[.int .i64 q.b.f0, .int .i64 q.b.f1, .int .i64 q.b.f2, .int .i64 q.b.f3, .slice q.A q.b.f4.length q.c] 35) := ⟨_, rfl⟩
  obtain ⟨g, hg⟩ : ∃ g, g = w.heap.size := ⟨_, rfl⟩
  have hF : Fr [] w W := by rw [hW]; exact (Fr.refl _ _).alloc _
  have hbl : W.heap[g]? = some (.cells #[.int .i64 q.b.f0, .int .i64 q.b.f1, .int .i64 q.b.f2, .int .i64 q.b.f3, .slice q.A q.b.f4.length q.c] 35 (0, 0)) := by rw [hW, hg]; exact heap_alloc_new _ _
  have e0 := cell_of hbl 0
  have e1 := cell_of hbl 1
  have e2 := cell_of hbl 2
  have e3 := cell_of hbl 3
  have e4 := cell_of hbl 4
  simp at e0 e1 e2 e3 e4
  have h1 := h.fr0 hF
  have hT1 := hT.fr hF (by simp)
  have hc := cell_of h1.hp 0
  simp at hc
  obtain ⟨es, cl, hb, hme, _⟩ := h1.hM
  have hsz : es.size = t.known.length := by
    have := congrArg List.length hme
    rw [← h1.ds_len]
    simpa using this
  have hge : ¬ (400 : Int) ≤ (es.size : Int) := by
    simp [Tr.room] at hroom; omega
  have hlen := fun ty => len_map hb ty
  have hhp := hO.high_parent hr
  have hadd : IntKind.i64.wrap (t.high q.b.f3 + 1) = t.high q.b.f3 + 1 := iwr _ (by rw [hhp]; simp; omega)
  have hS : ∀ W', Fr [] W W' → (W'.cell? ⟨g, 0, none⟩ = some (.int .i64 q.b.f0) ∧ W'.cell? ⟨g, 1, none⟩ = some (.int .i64 q.b.f1) ∧ W'.cell? ⟨g, 2, none⟩ = some (.int .i64 q.b.f2) ∧ W'.cell? ⟨g, 3, none⟩ = some (.int .i64 q.b.f3) ∧ W'.cell? ⟨g, 4, none⟩ = some (.slice q.A q.b.f4.length q.c) ∧ W'.cell? ⟨p, 0, none⟩ = some (.map (some b))) := fun W' hF' =>
    ⟨cellF hF' e0, cellF hF' e1, cellF hF' e2, cellF hF' e3, cellF hF' e4, cellF hF' hc⟩
  have HS := Lib.hid hS
  have HH := Lib.hid h1
  have HT := Lib.hid hT1
  have HF := Lib.hid hF
  have HP := Lib.hid hhp
  have hfin : ∀ w5, Fr [] W w5 → ∃ w6, (Instr.mapUpdate 84 (.map (some b)) (.int .i64 (nameB q.b)) (.agg #[.int .i64 q.b.f0, .int .i64 q.b.f1, .int .i64 q.b.f2, .int .i64 q.b.f3, .slice q.A q.b.f4.length q.c, .int .i64 (t.high q.b.f3 + 1)])).run Tryz.prog w5 = .ok () w6 ∧
      TrAt X w6 p (t.grow q.b) ∧ FrX X w w6 ∧ TxsAt X w6 q ∧ (w6.cell? ⟨g, 0, none⟩ = some (.int .i64 q.b.f0) ∧ w6.cell? ⟨g, 1, none⟩ = some (.int .i64 q.b.f1) ∧ w6.cell? ⟨g, 2, none⟩ = some (.int .i64 q.b.f2) ∧ w6.cell? ⟨g, 3, none⟩ = some (.int .i64 q.b.f3) ∧ w6.cell? ⟨g, 4, none⟩ = some (.slice q.A q.b.f4.length q.c) ∧ w6.cell? ⟨p, 0, none⟩ = some (.map (some b))) := by
    intro w5 hF5
    have h5 := h1.fr0 hF5
    obtain ⟨w6, u1, u2, u3, u4⟩ := h5.hM.run_update keyI' Tryz.underlying84 (nameB q.b) (knV q (t.high q.b.f3 + 1))
    refine ⟨w6, u1, ?_⟩
    have hno : alook (mOf ds) (nameB q.b) = none := by
      rw [alook_ds]
      have h9 := hk
      unfold Tr.has at h9
      rw [find_ds _ h1.hds] at h9
      cases hh : ds.find? (fun d => decide (d.2.name = nameB q.b)) with
      | none => rfl
      | some d => rw [hh] at h9; cases h9
    rw [aput_new hno, hhp] at u2
    have h6 := h5.put u3 q ⟨nameB q.b, q.b, t.path q.b.f3 ++ [nameB q.b]⟩ u2 rfl (hT1.fr hF5 (by simp))
    obtain ⟨es5, cl5, hb5, _⟩ := h5.hM
    have hgb : g ≠ b := by
      rintro rfl
      have := (hF5.block g (Array.getElem?_eq_some_iff.1 hbl).1 (by simp)).trans hbl
      rw [hb5] at this; cases this
    have hpb : p ≠ b := by rintro rfl; have := h5.hp; rw [hb5] at this; cases this
    obtain ⟨s0, s1, s2, s3, s4, s5⟩ := hS w5 hF5
    have hc' : ∀ (a : Addr) (u : Value), a.block ≠ b → w5.cell? a = some u → w6.cell? a = some u := fun a u ha hu => (u3.cell (lt_cell hu) (by simpa using ha)).trans hu
    exact ⟨⟨_, _, _, _, h6⟩, ⟨[b], (hF.trans hF5 (by simp)).mono (by simp) |>.trans u3 (fun x hx => .inl hx), fun k hk => by
      have : k = b := by simpa using hk
      subst this; exact h5.hX.2.1⟩, (hT1.fr hF5 (by simp)).fr u3 (fun k hk hm => (hT1.fr hF5 (by simp)).ne_map hb5 (by simp at hm; rw [← hm]; exact hk)), hc' _ _ hgb s0, hc' _ _ hgb s1, hc' _ _ hgb s2, hc' _ _ hgb s3, hc' _ _ hgb s4, hc' _ _ hpb s5⟩
  have HFIN := Lib.hid hfin
  clear hS h h1 hT hT1 hF hhp hfin hme hsz hr hk hpl hO hroom hbl
  go_enter Tryz.func74, Tryz.ntmps74
  go_upto_region 1 with (fail)
  rw [← hW, ← hg]
  clear hW hg
  go_upto_region 3 with (fail)
  clear hb e0 e1 e2 e3 e4 hc
  have hSD := HS.out W.drew ((Fr.refl _ _).drew)
  have HFD : Hid (Fr [] W W.drew) := (Fr.refl _ _).drew
  go_region_held3 (fun W' => W'.cell? ⟨g, 0, none⟩ = some (.int .i64 q.b.f0) ∧ W'.cell? ⟨g, 1, none⟩ = some (.int .i64 q.b.f1) ∧ W'.cell? ⟨g, 2, none⟩ = some (.int .i64 q.b.f2) ∧ W'.cell? ⟨g, 3, none⟩ = some (.int .i64 q.b.f3) ∧ W'.cell? ⟨g, 4, none⟩ = some (.slice q.A q.b.f4.length q.c) ∧ W'.cell? ⟨p, 0, none⟩ = some (.map (some b)))
    (assumption)
    (first
      | (go_at_call 70; refine (name_calls q.b q.A q.c (HT.out.fr HFD.out (by simp)).C.2 (HT.out.fr HFD.out (by simp)).C.1).mono ?_; rintro e w4 ⟨rfl, hB4⟩; have HF4 := Lib.hid (HFD.out.trans (Fr.of_below [] hB4) (by simp)); have hS4 := HS.out _ HF4.out; clear hB4)
      | (go_at_call 55; refine (height_calls ⟨_, _, _, _, HH.out.fr0 HF4.out⟩ q.b.f3).mono ?_; rintro e w5 ⟨rfl, hF5⟩; have HF5 := Lib.hid (HF4.out.trans hF5 (by simp)); have hS5 := HS.out _ HF5.out; obtain ⟨w6, hup, hA6, hF6, hT6, hS6⟩ := HFIN.out _ HF5.out; have HT6 := Lib.hid hT6; clear hT6; have HA6 := Lib.hid hA6; have HF6 := Lib.hid hF6; clear hA6 hF6 hF5))
  all_goals (go_wp2; exact hR.out _ _ ⟨rfl, HA6.out, HF6.out, HT6.out⟩)
end Go.Np.Tryz
set_option linter.unusedVariables false
set_option linter.unusedSimpArgs false
namespace Go.Np
open Go.RowKit
theorem RowAt.obj {w : World} {e : TypeId} {sz n : Nat} {v : Value} {xs : List Value} (h : RowAt w e sz v n xs) : ∀ k ∈ v.ownBlock.toList, ∃ cur, w.heap[k]? = some (.cells cur e (0, 0)) := by
  intro k hk
  rcases h.2 with ⟨h2, _⟩ | ⟨g, off, cap, cur, rfl, hh, r⟩
  · rw [h2] at hk; simp [Value.ownBlock] at hk
  · simp [Value.ownBlock] at hk
    subst hk
    exact ⟨_, hh⟩
end Go.Np
namespace Go.Np.Tryz
open Go.RowKit Go.Proofs Go.Proofs.YtlllhpnpgcphcaaGreat.PX Go.Proofs.YtlllhpnpgcphcaaGreatW.PrintWords
section
variable {X : Nat → Prop} {w w' : World} {p b : Nat} {t : Tr} {v v' : Value} {ds : List (BV × Kn)} {qs qs' : List BV}
theorem TrIn.setQ (h : TrIn X w p t b v ds qs) (hf : Fr (p :: v.ownBlock.toList) w w') (hp : w'.heap[p]? = some (.cells #[.map (some b), v'] 88 (0, 0))) (hr : RowAt w' 35 5 v' qs'.length (flatB qs'))
    (hq : ∀ q ∈ qs', TxsAt X w q) (hX : ∀ k ∈ v'.ownBlock.toList, ¬ X k) : TrIn X w' p ⟨t.known, qs'.map (·.b)⟩ b v' ds qs' := by
  have ht : ∀ q, TxsAt X w q → TxsAt X w' q := fun q hq => hq.fr hf (fun k hk hm => by
    rcases List.mem_cons.1 hm with hm | hm
    · subst hm; exact hq.ne h.hp (by decide) hk
    · obtain ⟨cur, hc⟩ := h.hv.obj k hm
      exact hq.ne hc (by decide) hk)
  obtain ⟨es, cl, hb, _⟩ := h.hM
  have hM := h.hM.fr hf (fun hm => by
    rcases List.mem_cons.1 hm with hm | hm
    · subst hm; have := h.hp; rw [hb] at this; cases this
    · exact h.hv.ne_map hb hm)
  exact ⟨hp, hM, h.hds, fun d hd => ⟨(h.hd d hd).1, ht _ (h.hd d hd).2⟩, hr, rfl, fun q hq' => ht q (hq q hq'), h.hX.1, h.hX.2.1, hX⟩
end
set_option maxHeartbeats 4000000 in
set_option maxRecDepth 100000 in
theorem push_calls {X : Nat → Prop} {w : World} {p b : Nat} {t : Tr} {v : Value} {ds : List (BV × Kn)} {qs : List BV} (h : TrIn X w p t b v ds qs) (q : BV) (hT : TxsAt X w q) (hl : qs.length ≤ 16) (hXw : ∀ k, X k → k < w.heap.size) :
    Calls Tryz.prog 73 #[.pointer (some ⟨p, 1, none⟩), blkV q.b q.A q.c, .int .i64 16] w fun e w' => e = .returned (.tuple #[]) ∧ TrAt X w' p ⟨t.known, (t.wait ++ [q.b]).drop (t.wait.length + 1 - 16)⟩ ∧ FrX X w w' := by
  unfold blkV
  refine calls_k fun R hR => ?_
  obtain ⟨A, c, rfl, hc⟩ := h.hv.form
  obtain ⟨W, hW⟩ : ∃ W, W = w.alloc (.cells #[.int .i64 q.b.f0, .int .i64 q.b.f1, .int .i64 q.b.f2, .int .i64 q.b.f3, .slice q.A q.b.f4.length q.c] 35) := ⟨_, rfl⟩
  obtain ⟨g, hg⟩ : ∃ g, g = w.heap.size := ⟨_, rfl⟩
  have hF : Fr [] w W := by rw [hW]; exact (Fr.refl _ _).alloc _
  have hbl : W.heap[g]? = some (.cells #[.int .i64 q.b.f0, .int .i64 q.b.f1, .int .i64 q.b.f2, .int .i64 q.b.f3, .slice q.A q.b.f4.length q.c] 35 (0, 0)) := by rw [hW, hg]; exact heap_alloc_new _ _
  have e0 := cell_of hbl 0
  have e1 := cell_of hbl 1
  have e2 := cell_of hbl 2
  have e3 := cell_of hbl 3
  have e4 := cell_of hbl 4
  simp at e0 e1 e2 e3 e4
  have h1 := h.fr0 hF
  have hc1 := cell_of h1.hp 1
  simp at hc1
  have hFn : Fr [] W (W.alloc (.cells #[.int .i64 q.b.f0, .int .i64 q.b.f1, .int .i64 q.b.f2, .int .i64 q.b.f3, .slice q.A q.b.f4.length q.c] 35)).drew := ((Fr.refl _ _).alloc _).drew
  have hca : (W.alloc (.cells #[.int .i64 q.b.f0, .int .i64 q.b.f1, .int .i64 q.b.f2, .int .i64 q.b.f3, .slice q.A q.b.f4.length q.c] 35)).cell? ⟨p, 1, none⟩ = some (.slice A qs.length c) := cellF hFn hc1
  have HRW := Lib.hid (h1.hv.fr hFn (by simp))
  have hcn : Hid (∀ j u, (flatB [q])[j]? = some u → (W.alloc (.cells #[.int .i64 q.b.f0, .int .i64 q.b.f1, .int .i64 q.b.f2, .int .i64 q.b.f3, .slice q.A q.b.f4.length q.c] 35)).drew.cell? ((⟨W.heap.size, 0, none⟩ : Addr).add j) = some u) := by
    intro j u hu
    have hn := heap_alloc_new W (.cells #[.int .i64 q.b.f0, .int .i64 q.b.f1, .int .i64 q.b.f2, .int .i64 q.b.f3, .slice q.A q.b.f4.length q.c] 35)
    have e : (⟨W.heap.size, 0, none⟩ : Addr).add j = ⟨W.heap.size, j, none⟩ := by unfold Addr.add; split <;> simp_all
    rw [e]
    have := cell_of (p := W.heap.size) hn j
    refine Eq.trans (show _ = _ from this) ?_
    simpa [flatB, BV.cells] using hu
  have h63 : qs.length + 1 ≤ maxLen := by unfold maxLen; omega
  have hbb : (qs.length + 1) * 56 ≤ 140737488355328 := by omega
  have HH := Lib.hid h
  have HF := Lib.hid hF
  have HT := Lib.hid hT
  have HP := Lib.hid h1.hp
  have HFn := Lib.hid hFn
  have hpg : p < g := by rw [hg]; exact h.plt
  have hgs : g < W.heap.size := (Array.getElem?_eq_some_iff.1 hbl).1
  clear h h1 hbl hF hT hFn
  go_enter Tryz.func73, Tryz.ntmps73
  go_upto_region 1 with (fail)
  rw [← hW, ← hg]
  clear hW hg
  go_region_law (first
    | (refine st_appendR rfl (.tmp 10) (.tmp 12) 28 35 rfl Tryz.underlying28 info35 rfl (by decide) HRW.out (by simp [Act.eval, Act.put]) ⟨W.heap.size, 0, none⟩ 1 1 (flatB [q]) (by simp [Act.eval, Act.put]) rfl hcn.out (flatB_one _) h63 hbb ?_; intro A6 c6 w6 hr6 hF6 hN6; have hp6 := (hF6.block p (by simp; omega) (fun hm => HRW.out.ne_obj ((HFn.out.block p (by omega) (by simp)).trans HP.out) (by decide) hm)).trans ((HFn.out.block p (by omega) (by simp)).trans HP.out); have n1 := cell_of hp6 1; have z1 := froz_of hp6 1; simp at n1; have HR6 := Lib.hid hr6; have HF6 := Lib.hid hF6; have HN6 := Lib.hid hN6; have HP6 := Lib.hid hp6; clear hr6 hF6 hN6 hp6))
  all_goals (clear hca hc1)
  all_goals
    have hFX : Hid (∀ (v8 : Value) (W8 : World) (qs8 : List BV), Fr (p :: (Value.slice A qs.length c).ownBlock.toList) w6 W8 → W8.heap[p]? = some (.cells #[.map (some b), v8] 88 (0, 0)) → RowAt W8 35 5 v8 qs8.length (flatB qs8) → (∀ r ∈ qs8, r ∈ qs ++ [q]) → (∀ k ∈ v8.ownBlock.toList, k ∈ (Value.slice A6 (qs.length + 1) c6).ownBlock.toList) →
        TrAt X W8 p ⟨t.known, qs8.map (·.b)⟩ ∧ FrX X w W8) := by
      intro v8 W8 qs8 hf8 hp8 hr8 hq8 hb8
      have hfw : Fr (p :: (Value.slice A qs.length c).ownBlock.toList) w W8 := (((HF.out.trans HFn.out (by simp)).mono (by simp)).trans (HF6.out.mono (fun x hx => .inl (List.mem_cons_of_mem _ hx))) (fun x hx => .inl hx)).trans hf8 (fun x hx => .inl hx)
      refine ⟨⟨b, v8, ds, qs8, HH.out.setQ hfw hp8 hr8 ?_ ?_⟩, ⟨_, hfw, ?_⟩⟩
      · intro r hr
        rcases List.mem_append.1 (hq8 r hr) with h1 | h1
        · exact HH.out.hq r h1
        · have : r = q := by simpa using h1
          rw [this]; exact HT.out
      · intro k hk hx
        rcases HN6.out k (hb8 k hk) with h1 | h1
        · exact HH.out.hX.2.2 k h1 hx
        · have h2 := hXw k hx
          have h3 : w.heap.size ≤ (W.alloc (.cells #[.int .i64 q.b.f0, .int .i64 q.b.f1, .int .i64 q.b.f2, .int .i64 q.b.f3, .slice q.A q.b.f4.length q.c] 35)).drew.heap.size := (HF.out.trans HFn.out (by simp)).size
          omega
      · intro k hk
        rcases List.mem_cons.1 hk with h1 | h1
        · rw [h1]; exact HH.out.hX.1
        · exact HH.out.hX.2.2 k h1
  all_goals
    have hwt : t.wait = qs.map (·.b) := HH.out.hqs.symm
    have hp7 := obj_set HP6.out 1 (.slice A6 (qs.length + 1) c6)
    have hrow7 : RowAt (w6.setCell ⟨p, 1, none⟩ (.slice A6 (qs.length + 1) c6)) 35 5 (.slice A6 (qs.length + 1) c6) (qs ++ [q]).length (flatB (qs ++ [q])) := by
      have := (HR6.out.fr ((Fr.refl [p] w6).setCell (p := ⟨p, 1, none⟩) (.inl (by simp)) (.slice A6 (qs.length + 1) c6)) (fun k hk hm => HR6.out.ne_obj HP6.out (by decide) (by simp at hm; rw [← hm]; exact hk)))
      rw [flatB_append]
      simpa using this
    have hf7 : Fr (p :: (Value.slice A qs.length c).ownBlock.toList) w6 (w6.setCell ⟨p, 1, none⟩ (.slice A6 (qs.length + 1) c6)) := (Fr.refl _ w6).setCell (.inl (by simp)) _
    obtain ⟨W7, hW7⟩ : ∃ W7, W7 = w6.setCell ⟨p, 1, none⟩ (.slice A6 (qs.length + 1) c6) := ⟨_, rfl⟩
    rw [← hW7] at hp7 hrow7 hf7
    simp at hp7
    have d1 := cell_of hp7 1
    have y1 := froz_of hp7 1
    simp at d1
    have HP7 := Lib.hid hp7
    have HR7 := Lib.hid hrow7
    have HF7 := Lib.hid hf7
    clear n1 z1 hp7 hrow7 hf7 e0 e1 e2 e3 e4
    go_upto_region 2 with (fail)
    rw [← hW7]
    clear hW7
    by_cases h16 : qs.length = 16
    · have h17 : (16 : Int) < (qs.length : Int) + 1 := by omega
      obtain ⟨g6, off6, hA6, hc6⟩ : ∃ g6 off6, A6 = some ⟨g6, off6, none⟩ ∧ qs.length + 1 ≤ c6 := by
        rcases HR7.out.2 with ⟨h2, h3⟩ | ⟨g', off', cap', cur, h2, h4, h5, _⟩
        · simp at h3
        · injection h2 with h2 _ h3
          subst h2 h3
          exact ⟨g', off', rfl, by simpa using h5⟩
      subst hA6
      have hne1 : c6 ≠ 1 := by omega
      have hle1 : 1 ≤ c6 := by omega
      have hr := HR7.out
      have hl17 : (qs ++ [q]).length = qs.length + 1 := by simp
      rw [hl17] at hr
      have ht := hr.tail (by decide) (some ⟨g6, off6 + 5, none⟩) (by rw [if_neg hne1])
      rw [show (flatB (qs ++ [q])).drop 5 = flatB ((qs ++ [q]).drop 1) from flatB_drop (qs ++ [q]) 1] at ht
      have hld : ((qs ++ [q]).drop 1).length = qs.length := by simp
      have ht8 := ht.fr ((Fr.refl [p] W7).setCell (p := ⟨p, 1, none⟩) (.inl (by simp)) (.slice (some ⟨g6, off6 + 5, none⟩) 16 (c6 - 1))) (fun k hk hm => ht.ne_obj HP7.out (by decide) (by simp at hm; rw [← hm]; exact hk))
      have hp8 := obj_set HP7.out 1 (.slice (some ⟨g6, off6 + 5, none⟩) 16 (c6 - 1))
      simp at hp8
      have hr8 : RowAt (W7.setCell ⟨p, 1, none⟩ (.slice (some ⟨g6, off6 + 5, none⟩) 16 (c6 - 1))) 35 5 (.slice (some ⟨g6, off6 + 5, none⟩) 16 (c6 - 1)) ((qs ++ [q]).drop 1).length (flatB ((qs ++ [q]).drop 1)) := by
        rw [hld]
        rw [h16] at ht8 ⊢
        exact ht8
      have hf8 := HF7.out.setCell (p := ⟨p, 1, none⟩) (.inl (by simp)) (.slice (some ⟨g6, off6 + 5, none⟩) 16 (c6 - 1))
      have hfin := hFX.out _ _ ((qs ++ [q]).drop 1) hf8 hp8 hr8 (fun r hr => List.mem_of_mem_drop hr) (fun k hk => by simpa [Value.ownBlock] using hk)
      have HFI := Lib.hid hfin
      clear hr ht ht8 hp8 hr8 hf8 hfin hld hl17
      go_wp2
      go_end0
      refine hR.out _ _ ⟨rfl, ?_⟩
      rw [hwt, show (qs.map (·.b)).length + 1 - 16 = 1 by simp; omega]
      simpa using HFI.out
    · have h17 : ¬ (16 : Int) < (qs.length : Int) + 1 := by omega
      go_wp2
      go_end0
      refine hR.out _ _ ⟨rfl, ?_⟩
      have := hFX.out _ W7 (qs ++ [q]) HF7.out HP7.out HR7.out (fun r hr => hr) (fun k hk => hk)
      rw [hwt, show (qs.map (·.b)).length + 1 - 16 = 0 by simp; omega, List.drop_zero]
      simpa using this
end Go.Np.Tryz
