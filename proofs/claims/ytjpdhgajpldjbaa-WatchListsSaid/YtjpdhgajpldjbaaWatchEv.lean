/- What the document's answers of watch come to. -/
import Derived.Test.YtjpdhgajpldjbaaPWx9
import Derived.Test.YtjpdhgajpldjbaaWatchUn
import Derived.Test.YtjpdhgajpldjbaaEvL
set_option linter.unusedVariables false
set_option linter.unusedSimpArgs false
namespace Go.Np
theorem begP_def (a b : List Int) : begP a b = decide (a <+: b) := by
  rw [Bool.eq_iff_iff, begP_iff, decide_eq_true_eq]
def cmpP (a b : List Int) : Bool := begP a b || begP b a
def allP (L : List (List Int)) : Bool := L.all fun a => L.all fun b => cmpP a b
def rlon (L : List (List Int)) : List Int := L.foldr (fun l o => if o.length ≤ l.length then l else o) []
theorem foldl_lon : ∀ (L : List (List Int)) (o : List Int), L.foldl lonStep o = if o.length < (rlon L).length then rlon L else o := by
  intro L
  induction L with
  | nil => intro o; simp [rlon]
  | cons l L ih =>
    intro o
    have hr : rlon (l :: L) = if (rlon L).length ≤ l.length then l else rlon L := rfl
    rw [List.foldl_cons, ih, hr]
    unfold lonStep
    by_cases h1 : o.length < l.length
    · rw [if_pos h1]
      by_cases h2 : (rlon L).length ≤ l.length
      · rw [if_neg (by omega), if_pos h2, if_pos h1]
      · rw [if_pos (by omega), if_neg h2, if_pos (by omega)]
    · rw [if_neg h1]
      by_cases h2 : (rlon L).length ≤ l.length
      · rw [if_pos h2, if_neg h1, if_neg (by omega)]
      · rw [if_neg h2]
theorem rlon_eq (L : List (List Int)) : rlon L = longP L := by
  rw [longP, foldl_lon]
  by_cases h : ([] : List Int).length < (rlon L).length
  · rw [if_pos h]
  · rw [if_neg h]; exact List.eq_nil_of_length_eq_zero (by simp at h; simp [h])
theorem rlon_mem : ∀ (L : List (List Int)), rlon L = [] ∨ rlon L ∈ L := by
  intro L
  induction L with
  | nil => exact .inl rfl
  | cons l L ih =>
    have hr : rlon (l :: L) = if (rlon L).length ≤ l.length then l else rlon L := rfl
    rw [hr]
    split
    · exact .inr List.mem_cons_self
    · rcases ih with h | h
      · exact .inl h
      · exact .inr (List.mem_cons_of_mem _ h)
theorem rlon_max : ∀ (L : List (List Int)), ∀ a ∈ L, a.length ≤ (rlon L).length := by
  intro L
  induction L with
  | nil => intro a h; cases h
  | cons l L ih =>
    intro a h
    have hr : rlon (l :: L) = if (rlon L).length ≤ l.length then l else rlon L := rfl
    rw [hr]
    rcases List.mem_cons.1 h with rfl | h
    · split <;> omega
    · have := ih a h; split <;> omega
theorem alike_all (L : List (List Int)) : alikeP L = allP L := by
  rw [Bool.eq_iff_iff]
  unfold alikeP allP
  rw [← rlon_eq]
  simp only [List.all_eq_true]
  constructor
  · intro h a ha b hb
    unfold cmpP
    rw [Bool.or_eq_true, begP_iff, begP_iff]
    have h1 := begP_iff.1 (h a ha)
    have h2 := begP_iff.1 (h b hb)
    exact List.prefix_or_prefix_of_prefix h1 h2
  · intro h a ha
    rw [begP_iff]
    rcases rlon_mem L with h0 | h0
    · have := rlon_max L a ha
      rw [h0] at this ⊢
      have : a = [] := List.eq_nil_of_length_eq_zero (by simpa using this)
      rw [this]; exact List.prefix_refl _
    · have h1 := h a ha _ h0
      unfold cmpP at h1
      rw [Bool.or_eq_true, begP_iff, begP_iff] at h1
      rcases h1 with h1 | h1
      · exact h1
      · have := rlon_max L a ha
        rw [h1.eq_of_length_le this]; exact List.prefix_refl _
end Go.Np
namespace Go.Np.Try
open Go.RowKit Go.Proofs Go.Proofs.Ytjpdhgajpldjbaa.PW Go.Proofs.YtjpdhgajpldjbaaW.PrintWords Go.Np
theorem wsucc (i : Nat) (h : i < 4611686018427387904) : wrap64 ((i : Int) + 1) = ((i + 1 : Nat) : Int) := by rw [w64 _ (by omega) (by omega)]; rfl
theorem rbeg_l0 (a b : List Int) (hm : a.length ≤ 1000) : ∀ d i : Nat, i + d = a.length → i ≤ b.length → a.take i = b.take i → Ev (fun k => neaptideref22_Begins.l0 k a b (a.length : Int) (i : Int)) (begP a b) := by
  intro d
  induction d with
  | zero =>
    intro i hi hb ht
    obtain rfl : i = a.length := by omega
    refine Ev.step (fun k => by rw [neaptideref22_Begins.l0]) (Ev.ite (fun h => by omega) (fun _ => Ev.c ?_))
    rw [List.take_length] at ht
    rw [show begP a b = true from decide_eq_true ⟨hb, ht⟩]
  | succ d ih =>
    intro i hi hb ht
    have hia : i < a.length := by omega
    refine Ev.step (fun k => by rw [neaptideref22_Begins.l0]) ?_
    rw [wsucc i (by omega), rd_nat a i hia]
    refine Ev.ite (fun _ => ?_) (fun h => by omega)
    refine Ev.ite (fun h => Ev.c ?_) (fun h => ?_)
    · rw [show begP a b = false from decide_eq_false (fun h' => by omega)]
    · have hib : i < b.length := by omega
      rw [rd_nat b i hib]
      refine Ev.ite (fun _ => Ev.ite (fun _ => Ev.ite (fun _ => ?_) (fun h => by omega)) (fun h => by omega)) (fun h => by omega)
      refine Ev.ite (fun he => ih (i + 1) (by omega) (by omega) ?_) (fun he => Ev.c ?_)
      · rw [List.take_succ_eq_append_getElem hia, List.take_succ_eq_append_getElem hib, ht, he]
      · rw [show begP a b = false from decide_eq_false (fun h' => he ?_)]
        have : a[i]? = (b.take a.length)[i]? := by rw [← h'.2]
        rw [List.getElem?_take, if_pos hia, List.getElem?_eq_getElem hia, List.getElem?_eq_getElem hib] at this
        exact Option.some.inj this
theorem rbeg_ev (a b : List Int) (hm : a.length ≤ 1000) : Ev (fun k => neaptideref22_Begins.f k a b) (begP a b) := rbeg_l0 a b hm a.length 0 (by omega) (Nat.zero_le _) rfl
theorem nodup_take (l : List Int) (i : Nat) (h : i < l.length) (hn : (l.take i).Nodup) : (l.take (i + 1)).Nodup ↔ l[i] ∉ l.take i := by
  rw [List.take_succ_eq_append_getElem h, unl_snoc']
  exact ⟨fun h => h.2, fun h => ⟨hn, h⟩⟩
theorem runl_l0 (l : List Int) (hm : l.length ≤ 1000) : ∀ d i : Nat, i + d = l.length → (l.take i).Nodup → Ev (fun k => neaptideref22_Unlike.l0 k l (l.length : Int) (i : Int)) (unlP l) := by
  intro d
  induction d with
  | zero =>
    intro i hi hn
    obtain rfl : i = l.length := by omega
    rw [List.take_length] at hn
    refine Ev.step (fun k => by rw [neaptideref22_Unlike.l0]) (Ev.ite (fun h => by omega) (fun _ => Ev.c ?_))
    rw [show unlP l = true from decide_eq_true hn]
  | succ d ih =>
    intro i hi hn
    have hil : i < l.length := by omega
    have inner : ∀ e j : Nat, j + e = i → l[i] ∉ l.take j → Ev (fun k => neaptideref22_Unlike.l1 k l (i : Int) (j : Int) (l.length : Int) (i : Int)) (unlP l) := by
      intro e
      induction e with
      | zero =>
        intro j hj hnm
        obtain rfl : j = i := by omega
        refine Ev.step (fun k => by rw [neaptideref22_Unlike.l1]) (Ev.ite (fun h => by omega) (fun _ => ?_))
        rw [wsucc j (by omega)]
        exact ih (j + 1) (by omega) ((nodup_take l j hil hn).2 hnm)
      | succ e ih2 =>
        intro j hj hnm
        have hjl : j < l.length := by omega
        refine Ev.step (fun k => by rw [neaptideref22_Unlike.l1]) ?_
        rw [wsucc j (by omega), rd_nat l i hil, rd_nat l j hjl]
        refine Ev.ite (fun _ => Ev.ite (fun _ => Ev.ite (fun _ => Ev.ite (fun _ => Ev.ite (fun _ => ?_) (fun h => by omega)) (fun h => by omega)) (fun h => by omega)) (fun h => by omega)) (fun h => by omega)
        refine Ev.ite (fun he => Ev.c ?_) (fun he => ih2 (j + 1) (by omega) ?_)
        · have hf : unlP l = false := decide_eq_false (fun h => by
            have h5 : (l.take (i + 1)).Nodup := List.Sublist.nodup (List.take_sublist _ _) h
            have h6 : l[i] ∈ l.take i := by rw [← he]; exact List.mem_take_iff_getElem.2 ⟨j, by omega, rfl⟩
            exact (nodup_take l i hil hn).1 h5 h6)
          rw [hf]
        · rw [List.take_succ_eq_append_getElem hjl, List.mem_append]
          rintro (h | h)
          · exact hnm h
          · have h7 : l[i] = l[j] := by simpa using h
            exact he h7.symm
    refine Ev.step (fun k => by rw [neaptideref22_Unlike.l0]) (Ev.ite (fun _ => ?_) (fun h => by omega))
    exact inner i 0 (by omega) (by simp)
theorem runl_ev (l : List Int) (hm : l.length ≤ 1000) : Ev (fun k => neaptideref22_Unlike.f k l) (unlP l) := runl_l0 l hm l.length 0 (by omega) (by simp)
theorem rdL (L : List (List Int)) (i : Nat) (h : i < L.length) : rd_L1 L (i : Int) = L[i] := by
  simp [rd_L1, List.getD_eq_getElem?_getD, h]
theorem ralk_l0 (L : List (List Int)) (hL : L.length ≤ 1000) (hm : ∀ a ∈ L, a.length ≤ 1000) : ∀ d i : Nat, i + d = L.length → ((L.take i).all fun a => L.all fun b => cmpP a b) = true → Ev (fun k => neaptideref22_Alike.l0 k L L (L.length : Int) (i : Int)) (allP L) := by
  intro d
  induction d with
  | zero =>
    intro i hi hn
    obtain rfl : i = L.length := by omega
    rw [List.take_length] at hn
    refine Ev.step (fun k => by rw [neaptideref22_Alike.l0]) (Ev.ite (fun h => by omega) (fun _ => Ev.c ?_))
    rw [show allP L = true from hn]
  | succ d ih =>
    intro i hi hn
    have hil : i < L.length := by omega
    have hmi := hm _ (List.getElem_mem hil)
    have inner : ∀ e j : Nat, j + e = L.length → ((L.take j).all fun b => cmpP L[i] b) = true → Ev (fun k => neaptideref22_Alike.l1 k L L[i] L (L.length : Int) (i : Int) L (L.length : Int) (j : Int)) (allP L) := by
      intro e
      induction e with
      | zero =>
        intro j hj hnm
        obtain rfl : j = L.length := by omega
        refine Ev.step (fun k => by rw [neaptideref22_Alike.l1]) (Ev.ite (fun h => by omega) (fun _ => ?_))
        rw [wsucc i (by omega)]
        rw [List.take_length] at hnm
        refine ih (i + 1) (by omega) ?_
        rw [List.take_succ_eq_append_getElem hil, List.all_append, hn]
        simpa using hnm
      | succ e ih2 =>
        intro j hj hnm
        have hjl : j < L.length := by omega
        have hmj := hm _ (List.getElem_mem hjl)
        have nxt : cmpP L[i] L[j] = true → Ev (fun k => neaptideref22_Alike.l1 k L L[i] L (L.length : Int) (i : Int) L (L.length : Int) ((j + 1 : Nat) : Int)) (allP L) := fun h => ih2 (j + 1) (by omega) (by
          rw [List.take_succ_eq_append_getElem hjl, List.all_append, hnm]; simp [h])
        refine Ev.step (fun k => by rw [neaptideref22_Alike.l1]) ?_
        rw [wsucc j (by omega), rdL L j hjl]
        refine Ev.ite (fun _ => Ev.ite (fun _ => Ev.ite (fun _ => ?_) (fun h => by omega)) (fun h => by omega)) (fun h => by omega)
        refine (rbeg_ev L[i] L[j] hmi).bind (Ev.ite (fun h1 => nxt (by simp [cmpP, h1])) (fun h1 => ?_))
        refine (rbeg_ev L[j] L[i] hmj).bind (Ev.ite (fun h2 => nxt (by simp [cmpP, h2])) (fun h2 => Ev.c ?_))
        have hf : allP L = false := by
          unfold allP
          rw [List.all_eq_false]
          refine ⟨L[i], List.getElem_mem hil, ?_⟩
          rw [Bool.not_eq_true, List.all_eq_false]
          exact ⟨L[j], List.getElem_mem hjl, by simp [cmpP, h1, h2]⟩
        rw [hf]
    refine Ev.step (fun k => by rw [neaptideref22_Alike.l0]) ?_
    rw [rdL L i hil]
    refine Ev.ite (fun _ => Ev.ite (fun _ => Ev.ite (fun _ => inner L.length 0 (by omega) (by simp)) (fun h => by omega)) (fun h => by omega)) (fun h => by omega)
theorem ralk_ev (L : List (List Int)) (hL : L.length ≤ 1000) (hm : ∀ a ∈ L, a.length ≤ 1000) : Ev (fun k => neaptideref22_Alike.f k L) (allP L) := ralk_l0 L hL hm L.length 0 (by omega) (by simp)
theorem rlon_l0 (L : List (List Int)) (hL : L.length ≤ 1000) : ∀ i : Nat, i ≤ L.length → Ev (fun k => neaptideref22_Longest.l0 k L (rlon (L.drop i)) ((i : Int) - 1)) (rlon L) := by
  intro i
  induction i with
  | zero =>
    intro _
    refine Ev.step (fun k => by rw [neaptideref22_Longest.l0]) (Ev.ite (fun h => by omega) (fun _ => Ev.c ?_))
    rw [List.drop_zero]
  | succ i ih =>
    intro hi
    have h1 := ih (by omega)
    have hil : i < L.length := by omega
    have e1 : ((i + 1 : Nat) : Int) - 1 = (i : Int) := by omega
    have hd : rlon (L.drop i) = if (rlon (L.drop (i + 1))).length ≤ L[i].length then L[i] else rlon (L.drop (i + 1)) := by
      rw [List.drop_eq_getElem_cons hil]; rfl
    refine Ev.step (fun k => by rw [neaptideref22_Longest.l0]) ?_
    rw [e1, w64 _ (by omega) (by omega), rdL L i hil]
    refine Ev.ite (fun _ => Ev.ite (fun _ => Ev.ite (fun _ => ?_) (fun h => by omega)) (fun h => by omega)) (fun h => by omega)
    refine Ev.ite (fun h => ?_) (fun h => ?_)
    · rw [hd, if_pos (by omega)] at h1; exact h1
    · rw [hd, if_neg (by omega)] at h1; exact h1
theorem rlon_ev (L : List (List Int)) (hL : L.length ≤ 1000) : Ev (fun k => neaptideref22_Longest.f k L) (rlon L) := by
  have := rlon_l0 L hL L.length (Nat.le_refl _)
  rw [List.drop_length] at this
  unfold neaptideref22_Longest.f
  rw [w64 _ (by omega) (by omega)]
  exact this
theorem same_l0 (a : List Int) (hm : a.length ≤ 1000) : ∀ d i : Nat, i + d = a.length → Ev (fun k => neaptideref01_SameInts.l0 k a a (a.length : Int) (i : Int)) true := by
  intro d
  induction d with
  | zero =>
    intro i hi
    obtain rfl : i = a.length := by omega
    exact Ev.step (fun k => by rw [neaptideref01_SameInts.l0]) (Ev.ite (fun h => by omega) (fun _ => Ev.c rfl))
  | succ d ih =>
    intro i hi
    refine Ev.step (fun k => by rw [neaptideref01_SameInts.l0]) ?_
    rw [wsucc i (by omega)]
    exact Ev.ite (fun _ => Ev.ite (fun _ => Ev.ite (fun _ => Ev.ite (fun _ => Ev.ite (fun _ => ih (i + 1) (by omega)) (fun h => absurd rfl h)) (fun h => by omega)) (fun h => by omega)) (fun h => by omega)) (fun h => by omega)
theorem same_ev (a : List Int) (hm : a.length ≤ 1000) : Ev (fun k => neaptideref01_SameInts.f k a a) true := by
  unfold neaptideref01_SameInts.f
  exact Ev.ite (fun _ => same_l0 a hm a.length 0 (by omega)) (fun h => absurd rfl h)
theorem lists_l0 (L : List (List Int)) (hL : L.length ≤ 30) : ∀ d i : Nat, i + d = L.length → (∀ a ∈ L.take i, a.length ≤ 200) → Ev (fun k => neaptidelaw22_WatchLists.l0 k L L (L.length : Int) (i : Int)) true := by
  intro d
  induction d with
  | zero =>
    intro i hi hb
    obtain rfl : i = L.length := by omega
    rw [List.take_length] at hb
    refine Ev.step (fun k => by rw [neaptidelaw22_WatchLists.l0]) (Ev.ite (fun h => by omega) (fun _ => ?_))
    have hlb : (longP L).length ≤ 200 := by
      rw [← rlon_eq]
      rcases rlon_mem L with h | h
      · rw [h]; simp
      · exact hb _ h
    have ha : watch_Alike.f L = some (alikeP L) := if_pos (by omega)
    have hl : watch_Longest.f L = some (longP L) := if_pos (by omega)
    refine Ev.obind ha ((ralk_ev L (by omega) (fun a h => by have := hb a h; omega)).bind ?_)
    rw [alike_all]
    refine Ev.ite (fun _ => ?_) (fun h => absurd (by simp) h)
    refine Ev.obind hl ((rlon_ev L (by omega)).bind ?_)
    rw [rlon_eq]
    exact (same_ev (longP L) (by omega)).bind (Ev.c rfl)
  | succ d ih =>
    intro i hi hb
    have hil : i < L.length := by omega
    refine Ev.step (fun k => by rw [neaptidelaw22_WatchLists.l0]) ?_
    rw [rdL L i hil]
    refine Ev.ite (fun _ => Ev.ite (fun _ => Ev.ite (fun _ => Ev.ite (fun _ => Ev.c rfl) (fun h200 => ?_)) (fun h => by omega)) (fun h => by omega)) (fun h => by omega)
    have inner : ∀ e j : Nat, j + e = L.length → Ev (fun k => neaptidelaw22_WatchLists.l1 k L L[i] L (L.length : Int) (i : Int) L (L.length : Int) (j : Int)) true := by
      intro e
      induction e with
      | zero =>
        intro j hj
        obtain rfl : j = L.length := by omega
        refine Ev.step (fun k => by rw [neaptidelaw22_WatchLists.l1]) (Ev.ite (fun h => by omega) (fun _ => ?_))
        have hu : watch_Unlike.f L[i] = some (unlP L[i]) := if_pos (by omega)
        refine Ev.obind hu ((runl_ev L[i] (by omega)).bind (Ev.ite (fun h => by simp at h) (fun _ => ?_)))
        rw [wsucc i (by omega)]
        refine ih (i + 1) (by omega) (fun a ha => ?_)
        rw [List.take_succ_eq_append_getElem hil, List.mem_append] at ha
        rcases ha with ha | ha
        · exact hb a ha
        · have : a = L[i] := by simpa using ha
          rw [this]; omega
      | succ e ih2 =>
        intro j hj
        have hjl : j < L.length := by omega
        refine Ev.step (fun k => by rw [neaptidelaw22_WatchLists.l1]) ?_
        rw [rdL L j hjl, wsucc j (by omega)]
        refine Ev.ite (fun _ => Ev.ite (fun _ => Ev.ite (fun _ => ?_) (fun h => by omega)) (fun h => by omega)) (fun h => by omega)
        exact Ev.obind (show watch_Begins.f L[i] L[j] = some (begP L[i] L[j]) from rfl) ((rbeg_ev L[i] L[j] (by omega)).bind (Ev.ite (fun h => by simp at h) (fun _ => ih2 (j + 1) (by omega))))
    exact inner L.length 0 (by omega)
theorem lists_ev (L : List (List Int)) : Ev (fun k => neaptidelaw22_WatchLists.f k L) true := by
  unfold neaptidelaw22_WatchLists.f
  refine Ev.obind (a := true) (by decide +kernel) ?_
  refine Ev.ite (fun _ => Ev.ite (fun _ => Ev.c rfl) (fun h => ?_)) (fun h => absurd rfl h)
  exact lists_l0 L (by omega) L.length 0 (by omega) (by simp)
theorem lists_calls {w : World} {A : Option Addr} {c : Nat} {L : List (List Int)} (h : KdL.C w A L.length L) (hc : L.length ≤ c) :
    Calls Try.prog 3 #[.slice A L.length c] w fun e w' => e = .returned (.bool true) ∧ Fr [] w w' := by
  obtain ⟨k, hk⟩ := (lists_ev L).rounds
  refine (neaptidelaw22_WatchLists.calls k A c L true w h hc hk).mono ?_
  rintro e w' ⟨he, hb⟩
  exact ⟨he, Fr.of_below [] hb⟩
end Go.Np.Try
