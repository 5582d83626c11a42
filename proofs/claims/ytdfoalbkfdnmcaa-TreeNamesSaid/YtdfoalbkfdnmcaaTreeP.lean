/- The tree, plain: blocks, names, what is known (with the way to it) and what waits. No program in sight. -/
import Derived.Test.YtdfoalbkfdnmcaaNpA
import Derived.Test.YtdfoalbkfdnmcaaPXx0
import Derived.Test.YtdfoalbkfdnmcaaTxU
set_option linter.unusedVariables false
set_option linter.unusedSimpArgs false
namespace Go.Np.Try
open Go.Proofs.Ytdfoalbkfdnmcaa.PX
/-- A block: as the printed texts have it. -/
abbrev Blk := S28
def okTx (t : S59) : Bool := decide (1 ≤ t.f0) && decide (t.f0 ≤ 1000000) && decide (0 ≤ t.f1) && decide (t.f1 ≤ 1000)
def okTxs (l : List S59) : Bool := unlikeB l && l.all okTx
def namedB (n : Int) : Bool := decide (65536 ≤ n) && decide (n ≤ 268435455) && decide (n % 65536 / 256 < 7)
def rightB (b : Blk) : Bool := decide (1 ≤ b.f0) && decide (b.f0 ≤ 4095) && decide (0 ≤ b.f1) && decide (b.f1 ≤ 6) && decide (0 ≤ b.f2) && decide (b.f2 ≤ 255) &&
  (decide (b.f3 = 0) || (namedB b.f3 && decide (b.f3 / 65536 < b.f0))) && okTxs b.f4
def nameB (b : Blk) : Int := if rightB b = true then b.f0 * 65536 + b.f1 * 256 + b.f2 else 0
theorem nameB_pos {b : Blk} (h : nameB b ≠ 0) : rightB b = true ∧ nameB b = b.f0 * 65536 + b.f1 * 256 + b.f2 ∧ 65536 ≤ nameB b ∧ nameB b ≤ 268435455 ∧ nameB b / 65536 = b.f0 := by
  unfold nameB at h ⊢
  by_cases hr : rightB b = true
  · rw [if_pos hr]
    have h1 := hr
    simp only [rightB, Bool.and_eq_true, decide_eq_true_eq] at h1
    refine ⟨hr, rfl, ?_, ?_, ?_⟩ <;> omega
  · rw [if_neg hr] at h; exact absurd rfl h
theorem parent_lt {b : Blk} (h : nameB b ≠ 0) : b.f3 = 0 ∨ (65536 ≤ b.f3 ∧ b.f3 < nameB b) := by
  obtain ⟨hr, h2, h3, h4, h5⟩ := nameB_pos h
  have h1 := hr
  simp only [rightB, namedB, Bool.and_eq_true, Bool.or_eq_true, decide_eq_true_eq] at h1
  rcases h1.1.2 with h6 | h6
  · exact .inl h6
  · right; omega
/-- What is known: the name, the block, the way to it (its own name last). -/
structure Kn where
  name : Int
  blk : Blk
  way : List Int
structure Tr where
  known : List Kn
  wait : List Blk
def Tr.find (t : Tr) (n : Int) : Option Kn := t.known.find? fun e => decide (e.name = n)
def Tr.has (t : Tr) (n : Int) : Bool := (t.find n).isSome
def Tr.path (t : Tr) (n : Int) : List Int := match t.find n with
  | some e => e.way
  | none => []
def Tr.high (t : Tr) (n : Int) : Int := if n = 0 then 0 else if t.has n then (t.path n).length else -1
def Tr.ready (t : Tr) (b : Blk) : Bool := decide (b.f3 = 0) || t.has b.f3
def Tr.grow (t : Tr) (b : Blk) : Tr := ⟨t.known ++ [⟨nameB b, b, t.path b.f3 ++ [nameB b]⟩], t.wait⟩
def Tr.room (t : Tr) : Bool := decide (t.known.length < 400)
/-- The names that are known by what waits, one after the other. -/
def Tr.settle : Nat → Tr → List Int → Tr × List Int
  | 0, t, out => (t, out)
  | k + 1, t, out => match t.wait.findIdx? t.ready with
    | none => (t, out)
    | some i =>
      let b := t.wait.getD i z28
      let s : Tr := ⟨t.known, t.wait.eraseIdx i⟩
      if s.room then Tr.settle k (s.grow b) (out ++ [nameB b]) else Tr.settle k s out
def Tr.add (t : Tr) (b : Blk) : Tr × List Int × Bool :=
  if nameB b = 0 ∨ t.has (nameB b) = true ∨ nameB b ∈ t.wait.map nameB then (t, [], false)
  else if t.ready b = false then (⟨t.known, (t.wait ++ [b]).drop (t.wait.length + 1 - 16)⟩, [], true)
  else if t.room = false then (t, [], false)
  else
    let r := Tr.settle (t.wait.length + 1) (t.grow b) [nameB b]
    (r.1, r.2, true)
/-- No name twice; each that is known stands on one that is, by the way to it. -/
structure Tr.Ok (t : Tr) : Prop where
  nodup : (t.known.map (·.name) ++ t.wait.map nameB).Nodup
  known : ∀ e ∈ t.known, e.name = nameB e.blk ∧ e.name ≠ 0 ∧ (e.blk.f3 = 0 ∨ t.has e.blk.f3 = true) ∧ e.way = t.path e.blk.f3 ++ [e.name]
  wait : ∀ b ∈ t.wait, nameB b ≠ 0
  few : t.known.length ≤ 400
theorem Tr.find_some {t : Tr} {n : Int} {e : Kn} (h : t.find n = some e) : e ∈ t.known ∧ e.name = n := by
  unfold Tr.find at h
  exact ⟨List.mem_of_find?_eq_some h, by simpa using List.find?_some h⟩
theorem Tr.has_iff {t : Tr} {n : Int} : t.has n = true ↔ n ∈ t.known.map (·.name) := by
  unfold Tr.has Tr.find
  rw [List.find?_isSome, List.mem_map]
  simp
theorem Tr.find_grow {t : Tr} {b : Blk} {n : Int} : (t.grow b).find n = (t.find n).or (if nameB b = n then some ⟨nameB b, b, t.path b.f3 ++ [nameB b]⟩ else none) := by
  unfold Tr.find Tr.grow
  rw [List.find?_append]
  congr 1
  by_cases h : nameB b = n <;> simp [List.find?_cons, h]
theorem Tr.path_grow {t : Tr} {b : Blk} {n : Int} (h : t.has n = true) : (t.grow b).path n = t.path n ∧ (t.grow b).has n = true := by
  unfold Tr.has at h
  obtain ⟨e, he⟩ := Option.isSome_iff_exists.1 h
  have h1 : (t.grow b).find n = some e := by rw [Tr.find_grow, he]; rfl
  exact ⟨by unfold Tr.path; rw [h1, he], by unfold Tr.has; rw [h1]; rfl⟩
theorem Tr.Ok.no_zero {t : Tr} (h : t.Ok) : t.has 0 = false := by
  rw [← Bool.not_eq_true, Tr.has_iff]
  intro hm
  obtain ⟨e, he, h0⟩ := List.mem_map.1 hm
  exact (h.known e he).2.1 h0
theorem Tr.Ok.path_zero {t : Tr} (h : t.Ok) : t.path 0 = [] := by
  have := h.no_zero
  unfold Tr.has at this
  unfold Tr.path
  cases hf : t.find 0 with
  | none => rfl
  | some e => rw [hf] at this; cases this
theorem Tr.Ok.grow {t : Tr} {b : Blk} (h : t.Ok) (hn : nameB b ≠ 0) (hr : t.ready b = true) (hk : t.has (nameB b) = false) (hw : nameB b ∉ t.wait.map nameB) (hm : t.known.length < 400) : (t.grow b).Ok := by
  have hp0 : ∀ n, n = 0 ∨ t.has n = true → (t.grow b).path n = t.path n := by
    intro n hn'
    rcases hn' with rfl | hn'
    · have hz : (t.grow b).find 0 = none := by
        rw [Tr.find_grow, if_neg hn]
        have := h.no_zero
        unfold Tr.has at this
        cases hf : t.find 0 with
        | none => rfl
        | some e => rw [hf] at this; cases this
      rw [h.path_zero]; unfold Tr.path; rw [hz]
    · exact (Tr.path_grow hn').1
  have hk' : nameB b ∉ t.known.map (·.name) := by rw [← Tr.has_iff, hk]; simp
  have hrd : b.f3 = 0 ∨ t.has b.f3 = true := by simpa [Tr.ready] using hr
  refine ⟨?_, ?_, h.wait, ?_⟩
  · have h1 := h.nodup
    rw [List.nodup_append] at h1 ⊢
    obtain ⟨n1, n2, n3⟩ := h1
    refine ⟨?_, n2, ?_⟩
    · show ((t.known ++ [_]).map _).Nodup
      rw [List.map_append, List.nodup_append]
      refine ⟨n1, by simp, fun x hx y hy => ?_⟩
      simp at hy
      subst hy
      intro he; subst he; exact hk' hx
    · intro x hx y hy
      have hx' : x ∈ (t.known ++ [(⟨nameB b, b, t.path b.f3 ++ [nameB b]⟩ : Kn)]).map (·.name) := hx
      rw [List.map_append, List.mem_append] at hx'
      rcases hx' with hx' | hx'
      · exact n3 x hx' y hy
      · simp at hx'
        subst hx'
        intro he; subst he; exact hw hy
  · intro e he
    have he' : e ∈ t.known ∨ e = ⟨nameB b, b, t.path b.f3 ++ [nameB b]⟩ := by simpa [Tr.grow] using he
    rcases he' with he' | rfl
    · obtain ⟨e1, e2, e3, e4⟩ := h.known e he'
      refine ⟨e1, e2, e3.imp id (fun x => (Tr.path_grow x).2), ?_⟩
      rw [hp0 _ e3]; exact e4
    · refine ⟨rfl, hn, hrd.imp id (fun x => (Tr.path_grow x).2), ?_⟩
      show _ = (t.grow b).path b.f3 ++ _
      rw [hp0 _ hrd]
  · show (t.known ++ [_]).length ≤ 400
    simp; omega
end Go.Np.Try
