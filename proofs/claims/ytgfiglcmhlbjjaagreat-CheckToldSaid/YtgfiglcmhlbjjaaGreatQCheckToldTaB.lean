/- What CheckTold needs. -/
import Derived.Test.YtgfiglcmhlbjjaaGreatQCheckToldPXx13
import Derived.Test.YtgfiglcmhlbjjaaGreatQCheckToldPXx9
import Derived.Test.YtgfiglcmhlbjjaaGreatQCheckToldTaA
import Derived.Test.YtgfiglcmhlbjjaaGreatQCheckToldVals
import Derived.Test.YtgfiglcmhlbjjaaGreatQCheckToldUnlike
import Derived.Test.YtgfiglcmhlbjjaaGreatQCheckToldStSum
import Derived.Deep.RegionHeld3
import Derived.Sort.LoopGhostIn
import Derived.Deep.RegionHeld
import Derived.OrdersIn
import Derived.TacticsIn
import Derived.RangeFuncCalls
import Derived.RangeFuncNested
import Derived.RangeFuncBound
namespace Go.Np
open Go.RowKit Go.Proofs.YtgfiglcmhlbjjaaGreatW.PrintWords
def ws : List Int → Nat → (Int → Bool) → Int
  | [], _, _ => 0
  | w :: l, i, p => (if p i then w else 0) + ws l (i + 1) p
def okS (st : List Int) : Prop := 1 ≤ st.length ∧ st.length ≤ 7 ∧ ∀ w ∈ st, 1 ≤ w ∧ w ≤ 1000000
def tot (st : List Int) : Int := ws st 0 (fun _ => true)
theorem ws_bounds {l : List Int} (h : ∀ w ∈ l, 1 ≤ w ∧ w ≤ 1000000) (p : Int → Bool) : ∀ i, 0 ≤ ws l i p ∧ ws l i p ≤ l.length * 1000000 := by
  induction l with
  | nil => intro i; simp [ws]
  | cons w l ih =>
    intro i
    have h1 := ih (fun x hx => h x (.tail _ hx)) (i + 1)
    have h2 := h w (.head _)
    simp only [ws, List.length_cons]
    split <;> omega
theorem ws_add (l : List Int) (p q : Int → Bool) : ∀ i, ws l i p + ws l i q = ws l i (fun x => p x && q x) + ws l i (fun x => p x || q x) := by
  induction l with
  | nil => intro i; simp [ws]
  | cons w l ih =>
    intro i
    have h1 := ih (i + 1)
    simp only [ws]
    by_cases hp : p i = true <;> by_cases hq : q i = true <;> simp [hp, hq] <;> omega
theorem ws_mono {l : List Int} (h : ∀ w ∈ l, 1 ≤ w ∧ w ≤ 1000000) {p q : Int → Bool} (hpq : ∀ x, p x = true → q x = true) : ∀ i, ws l i p ≤ ws l i q := by
  induction l with
  | nil => intro i; simp [ws]
  | cons w l ih =>
    intro i
    have h1 := ih (fun x hx => h x (.tail _ hx)) (i + 1)
    have h2 := h w (.head _)
    simp only [ws]
    cases hp : p i
    · simp; split <;> omega
    · simp [hpq _ hp]; omega
theorem ws_congr {l : List Int} {p q : Int → Bool} : ∀ i, (∀ j : Nat, i ≤ j → j < i + l.length → p j = q j) → ws l i p = ws l i q := by
  induction l with
  | nil => intro i _; simp [ws]
  | cons w l ih =>
    intro i h
    simp only [ws, h i (Nat.le_refl _) (by simp)]
    rw [ih (i + 1) (fun j h1 h2 => h j (by omega) (by simp; omega))]
theorem ws_new (l : List Int) (p : Int → Bool) (x : Nat) (hp : p x = false) : ∀ i, i ≤ x → x < i + l.length → ws l i (fun y => decide (y = x) || p y) = ws l i p + l.getD (x - i) 0 := by
  induction l with
  | nil => intro i h1 h2; simp at h2; omega
  | cons w l ih =>
    intro i h1 h2
    simp only [ws]
    by_cases e : i = x
    · subst e
      rw [ws_congr (p := fun y => decide (y = (i : Int)) || p y) (q := p) (i + 1) (fun j h3 _ => by simp; omega)]
      simp [hp]; omega
    · rw [ih (i + 1) (by omega) (by simp at h2; omega), show x - i = (x - (i + 1)) + 1 by omega]
      have : ¬ (i : Int) = x := by omega
      simp [this]; omega
theorem w64 {x : Int} (h0 : -9223372036854775808 ≤ x) (h1 : x ≤ 9223372036854775807) : wrap64 x = x := by unfold wrap64; omega
theorem sumGo_eq {st : List Int} (h : okS st) : ∀ (l seen : List Int), sumGo st l seen (ws st 0 (fun y => decide (y ∈ seen))) = ws st 0 (fun y => decide (y ∈ seen) || decide (y ∈ l)) := by
  intro l
  induction l with
  | nil => intro seen; simp [sumGo]
  | cons x l ih =>
    intro seen
    rw [sumGo]
    split
    · rename_i hx
      obtain ⟨h0, h1, h2⟩ := hx
      obtain ⟨n, rfl⟩ := Int.eq_ofNat_of_zero_le h0
      have hn := ws_new st (fun y => decide (y ∈ seen)) n (by simpa using h2) 0 (Nat.zero_le _) (by omega)
      have hs : ws st 0 (fun y => decide (y ∈ (n : Int) :: seen)) = ws st 0 (fun y => decide (y = (n : Int)) || decide (y ∈ seen)) := by
        congr 1; funext y; simp
      have hb := ws_bounds h.2.2 (fun y => decide (y ∈ (n : Int) :: seen)) 0
      have hl := h.2.1
      rw [hs, hn] at hb
      simp only [Int.toNat_natCast, Nat.sub_zero] at hb hn ⊢
      rw [w64 (by omega) (by omega), ← hn, ← hs, ih]
      congr 1; funext y
      rw [Bool.eq_iff_iff]
      simp only [Bool.or_eq_true, decide_eq_true_eq, List.mem_cons]
      constructor
      · rintro ((h | h) | h) <;> simp [h]
      · rintro (h | h | h) <;> simp [h]
    · rename_i hx
      rw [ih]
      refine ws_congr 0 (fun j _ hj => ?_)
      rw [Bool.eq_iff_iff]
      simp only [Bool.or_eq_true, decide_eq_true_eq, List.mem_cons]
      constructor
      · rintro (h | h) <;> simp [h]
      · rintro (h | h | h)
        · simp [h]
        · subst h
          left
          have : ¬ (j : Int) ∉ seen := fun h3 => hx ⟨by omega, by omega, h3⟩
          simpa using this
        · simp [h]
theorem sumP_eq {st : List Int} (h : okS st) (who : List Int) : sumP st who = ws st 0 (fun y => decide (y ∈ who)) := by
  have h0 : ws st 0 (fun y => decide (y ∈ ([] : List Int))) = 0 := by
    have : ∀ (l : List Int) i, ws l i (fun y => decide (y ∈ ([] : List Int))) = 0 := by
      intro l; induction l with
      | nil => intro i; rfl
      | cons w l ih => intro i; simp only [ws]; rw [ih]; simp
    exact this st 0
  have := sumGo_eq h who []
  rw [h0] at this
  rw [sumP, this]
  refine ws_congr 0 (fun j _ _ => by simp)
section
open Go.Proofs.YtgfiglcmhlbjjaaGreat.PX
theorem Ev.ite {α : Type} {c : Prop} [Decidable c] {g f : Nat → Option α} {r : α} (h : c → Ev g r) (k : ¬ c → Ev f r) : Ev (fun n => if c then g n else f n) r := by
  by_cases hc : c
  · simpa [hc] using h hc
  · simpa [hc] using k hc
theorem Ev.c {α : Type} {o : Option α} {r : α} (h : o = some r) : Ev (fun _ => o) r := ⟨0, fun _ _ => h⟩
instance (st : List Int) : Decidable (okS st) := by unfold okS; infer_instance
theorem rd_nat (l : List Int) (i : Nat) (h : i < l.length) : rd l i = l[i] := by
  simp [rd, List.getD_eq_getElem?_getD, List.getElem?_eq_getElem h]
def rngS (l : List Int) : Bool := l.all fun w => decide (1 ≤ w ∧ w ≤ 1000000)
theorem rngS_iff {l : List Int} : rngS l = true ↔ ∀ w ∈ l, 1 ≤ w ∧ w ≤ 1000000 := by simp [rngS]
def chk (st : List Int) : Int := if okS st then 0 else 31
theorem total_l0 {l : List Int} (h : okS l) : ∀ d i : Nat, i + d = l.length → Ev (fun k => stake_Total.l0 k (tot l - ws (l.drop i) i (fun _ => true)) l (l.length : Int) i) (tot l) := by
  have hl := h.2.1
  intro d
  induction d with
  | zero =>
    intro i hi
    refine Ev.step (fun k => by rw [stake_Total.l0]) ?_
    refine Ev.ite (fun h => by omega) (fun _ => Ev.c ?_)
    rw [List.drop_of_length_le (by omega)]; simp [ws]
  | succ d ih =>
    intro i hi
    have hlt : i < l.length := by omega
    have hd := List.drop_eq_getElem_cons hlt
    have b0 := ws_bounds h.2.2 (fun _ => true) 0
    have b1 := ws_bounds (l := l.drop i) (fun w hw => h.2.2 w (List.mem_of_mem_drop hw)) (fun _ => true) i
    have b2 := ws_bounds (l := l.drop (i + 1)) (fun w hw => h.2.2 w (List.mem_of_mem_drop hw)) (fun _ => true) (i + 1)
    rw [List.length_drop] at b1 b2
    refine Ev.step (fun k => by rw [stake_Total.l0]) ?_
    refine Ev.ite (fun _ => Ev.ite (fun _ => Ev.ite (fun _ => ?_) (fun h => by omega)) (fun h => by omega)) (fun h => by omega)
    have := ih (i + 1) (by omega)
    rw [rd_nat l i hlt, w64 (x := (i : Int) + 1) (by omega) (by omega)]
    have e : wrap64 (tot l - ws (l.drop i) i (fun _ => true) + l[i]) = tot l - ws (l.drop (i + 1)) (i + 1) (fun _ => true) := by
      rw [hd, ws] at b1 ⊢
      simp only [if_true] at b1 ⊢
      unfold tot
      rw [w64 (by omega) (by omega)]; omega
    rw [e]; exact this
theorem total_ev {l : List Int} (h : okS l) : Ev (fun k => stake_Total.f k l) (tot l) := by
  have := total_l0 h l.length 0 (by omega)
  simpa [stake_Total.f, tot] using this
theorem tot_bounds {l : List Int} (h : okS l) : 1 ≤ tot l ∧ tot l ≤ 7000000 := by
  have b := ws_bounds h.2.2 (fun _ => true) 0
  have hl := h.2.1
  refine ⟨?_, by unfold tot; omega⟩
  match l, h with
  | w :: l, h =>
    have b := ws_bounds (l := l) (fun w hw => h.2.2 w (.tail _ hw)) (fun _ => true) 1
    have := h.2.2 w (.head _)
    unfold tot; simp [ws]; omega
  | [], h => have := h.1; simp at this
def wl (st who : List Int) : Int := ws st 0 (fun y => decide (y ∈ who))
theorem wl_bounds {st : List Int} (h : okS st) (who : List Int) : 0 ≤ wl st who ∧ wl st who ≤ tot st :=
  ⟨(ws_bounds h.2.2 _ 0).1, ws_mono h.2.2 (fun _ _ => rfl) 0⟩
theorem sum_some {st : List Int} (h : okS st) (who : List Int) : stake_Sum.f st who = some (wl st who) := by rw [stake_Sum.f, sumP_eq h]; rfl
theorem most_ev {st : List Int} (h : okS st) (who : List Int) : Ev (fun k => stake_Most.f k st who) (decide (3 * wl st who > 2 * tot st)) := by
  have b := wl_bounds h who; have t := tot_bounds h
  unfold stake_Most.f; rw [sum_some h]
  refine (total_ev h).bind (Ev.c ?_)
  rw [w64 (by omega) (by omega), w64 (by omega) (by omega)]
theorem some_ev {st : List Int} (h : okS st) (who : List Int) : Ev (fun k => stake_Some.f k st who) (decide (3 * wl st who > tot st)) := by
  have b := wl_bounds h who; have t := tot_bounds h
  unfold stake_Some.f; rw [sum_some h]
  refine (total_ev h).bind (Ev.c ?_)
  rw [w64 (by omega) (by omega)]
theorem rcheck_l0 (l : List Int) (hm : l.length ≤ 7) : ∀ d i : Nat, i + d = l.length → Ev (fun k => neaptideref03_Check.l0 k l (l.length : Int) i) (if rngS (l.drop i) = true then 0 else 31) := by
  intro d
  induction d with
  | zero =>
    intro i hi
    refine Ev.step (fun k => by rw [neaptideref03_Check.l0]) ?_
    refine Ev.ite (fun h => by omega) (fun _ => Ev.c ?_)
    rw [if_pos (by rw [List.drop_of_length_le (by omega)]; rfl)]
  | succ d ih =>
    intro i hi
    have hlt : i < l.length := by omega
    have hd := List.drop_eq_getElem_cons hlt
    refine Ev.step (fun k => by rw [neaptideref03_Check.l0]) ?_
    refine Ev.ite (fun _ => Ev.ite (fun _ => Ev.ite (fun _ => ?_) (fun h => by omega)) (fun h => by omega)) (fun h => by omega)
    rw [rd_nat l i hlt, hd]
    refine Ev.ite (fun h => Ev.c ?_) (fun h1 => Ev.ite (fun h => Ev.c ?_) (fun h2 => ?_))
    · rw [if_neg (fun h' => by have := rngS_iff.1 h' _ (.head _); omega)]
    · rw [if_neg (fun h' => by have := rngS_iff.1 h' _ (.head _); omega)]
    · have := ih (i + 1) (by omega)
      rw [w64 (by omega) (by omega)]
      have e : rngS (l[i] :: l.drop (i + 1)) = rngS (l.drop (i + 1)) := by
        simp only [rngS, List.all_cons, show decide (1 ≤ l[i] ∧ l[i] ≤ 1000000) = true from decide_eq_true (by omega), Bool.true_and]
      rw [e]
      exact this
theorem rcheck_ev (l : List Int) : Ev (fun k => neaptideref03_Check.f k l) (chk l) := by
  unfold neaptideref03_Check.f
  refine Ev.ite (fun h => ?_) (fun h => ?_)
  · refine Ev.step (fun k => by rw [neaptideref03_Check.j0]) (Ev.ite (fun _ => Ev.c ?_) (fun h => by simp at h))
    rw [chk, if_neg (fun h' => by have := h'.1; omega)]
  · refine Ev.step (fun k => by rw [neaptideref03_Check.j0]) (Ev.ite (fun h' => Ev.c ?_) (fun h' => ?_))
    · rw [chk, if_neg (fun h3 => by have := h3.2.1; simp at h'; omega)]
    · have := rcheck_l0 l (by simp at h'; omega) l.length 0 (by omega)
      simp only [List.drop_zero, Int.natCast_zero] at this
      have e : chk l = if rngS l = true then 0 else 31 := by
        unfold chk
        by_cases h3 : rngS l = true
        · rw [if_pos h3, if_pos ⟨by omega, by simp at h'; omega, rngS_iff.1 h3⟩]
        · rw [if_neg h3, if_neg (fun h4 => h3 (rngS_iff.2 h4.2.2))]
      rw [e]; exact this
end
end Go.Np
set_option linter.unusedVariables false
set_option linter.unusedSimpArgs false
namespace Go.Np.Tryz
open Go.RowKit Go.Proofs Go.Proofs.YtgfiglcmhlbjjaaGreatW.PrintWords
set_option maxHeartbeats 4000000 in
set_option maxRecDepth 100000 in
theorem whoAhead {w0 w : World} {p : Nat} {st : List Int} {m : List (Bal × Int)} (h : Tl w0 w p st m) (hm : m.length < 1099511627776) {p1 : Nat} {H : Bal → Int → Bool}
    (hc : ∀ (w' : World) (q : Bal) (y : Int), Fr [] w w' → Calls Tryz.prog 71 #[balE q, .int .i64 y, .pointer (some ⟨p1, 0, none⟩)] w' fun e w'' => e = .returned (.bool (H q y)) ∧ Fr [] w' w'') :
    Calls Tryz.prog 70 #[.pointer (some ⟨p, 0, none⟩), .func (.func 71) #[] #[.pointer (some ⟨p1, 0, none⟩)]] w fun e w' => ∃ A c, e = .returned (.slice A (whoP H m).length c) ∧ (whoP H m).length ≤ c ∧ (Kd.int .i64).C w' A (whoP H m).length (whoP H m) ∧ Fr [] w w' := by
  obtain ⟨b, A, c, h⟩ := h
  obtain ⟨ob, hranges, hI⟩ := IterIs.begin (P := Tryz.prog) (k := 113) h.map
  have hrange := hranges 114 3 Tryz.underlying114
  have c1 : w.cell? ⟨p, 1, none⟩ = some (.map (some b)) := cell_of h.obj 1
  have hF2 : Fr [] w (w.alloc ob) := (Fr.refl _ _).alloc _
  obtain ⟨r, hr⟩ : ∃ r, r = w.heap.size := ⟨_, rfl⟩
  obtain ⟨W2, hW2⟩ : ∃ W2, W2 = w.alloc ob := ⟨_, rfl⟩
  rw [← hr, ← hW2] at hrange hI
  rw [← hW2] at hF2
  refine calls_k fun R hR => ?_
  have hrw : w.heap.size ≤ r := Nat.le_of_eq hr.symm
  have hr2 : r < W2.heap.size := hI.lt.2
  have hb2 : b < w.heap.size := by obtain ⟨es, cl, g, _⟩ := h.map; exact (Array.getElem?_eq_some_iff.1 g).1
  have HC := Lib.hid hc
  have HI := Lib.hid hI
  have HF2 := Lib.hid hF2
  clear h hc hI hF2
  clear hr hW2 hranges
  go_enter Tryz.func70, Tryz.ntmps70
  go_upto_region 3 with (fail)
  clear hrange c1
  go_loopg [5] m.length (fun gn v wr => ∃ (left : List (Bal × Int)) (l : List Int), gn = left.length ∧ Hid (IterIs balE wr r b (left.map encV)) ∧ wr.ownsRow 0 3 1 v l.length (l.map (Value.int .i64)) ∧ Hid (∀ x, x ∈ l ∨ x ∈ selP H left ↔ x ∈ selP H m) ∧ Hid (Fr [] w wr) ∧ Hid (∀ k ∈ v.ownBlock.toList, W2.heap.size ≤ k) ∧ l.length + left.length ≤ m.length ∧ W2.heap.size ≤ wr.heap.size)
  case atStart => exact ⟨m, [], rfl, HI, World.ownsRow_nil _ _ _ _, by intro x; simp, HF2, by intro k hk; simp [Value.ownBlock] at hk, by simp, Nat.le_refl _⟩
  case round =>
    obtain ⟨left, l, rfl, HIr, hown, HS, HFr, HB, hlen, hsz⟩ := hrel
    have hll : l.length < 1099511627776 := by omega
    rcases HIr.out.run_next (P := Tryz.prog) 0 with ⟨hnil, hnext⟩ | ⟨l1, x, y, l2, w', hleft, hnext, hI', hF', hsz', hentry⟩
    · have hl0 : left = [] := by simpa using hnil
      subst hl0
      have hu : whoP H m = uniq l := uniq_perm (fun x => by rw [← HS.out x]; simp [selP])
      rw [hu] at hR
      obtain ⟨s, hs⟩ : ∃ s, s = l.mergeSort fun x y => decide (x ≤ y) := ⟨_, rfl⟩
      have hsl : s.length = l.length := by rw [hs]; exact List.length_mergeSort l
      have HSO := Lib.hid (sort_own hown (by omega))
      rw [← hs, ← hsl] at HSO
      rw [show uniq l = Go.Lib.compact s by rw [hs]; rfl] at hR
      have hs9 : s.length ≤ 9223372036854775807 := by omega
      have HO := Lib.hid hown
      clear hown hnil hu hs hsl
      go_wp2_with (first
        | (go_at_call 80; refine HSO.out.mono ?_; rintro e w1 ⟨rfl, h1, h2⟩; have HC := Lib.hid (compact_own h1 hs9); have H2 := Lib.hid h2; clear h1 h2)
        | (go_at_call 86; refine HC.out.mono ?_; rintro e w3 ⟨A3, c3, rfl, h3, h4, h5⟩))
      obtain ⟨A4, c4, he4, h6, h7⟩ := Kd.R_reads (Kd.R_of_own (ok := fun _ => True) h3 (fun _ _ => trivial))
      injection he4 with e1 e2 e3
      subst e1 e3
      have hb1 : ∀ k, u5.ownBlock = some k → W2.heap.size ≤ k := fun k hk => HB.out k (by simp [hk])
      have hFa := HFr.out.trans (Fr.grown (S := u5.ownBlock.toList) H2.out (fun k hk => .inl (by simp [hk]))) (fun k hk => .inr (by have := HB.out k hk; have := HF2.out.size; omega))
      have hFb := hFa.trans (Fr.grown (S := u5.ownBlock.toList) h5 (fun k hk => .inl (by simp [hk]))) (fun k hk => .inr (by have := HB.out k hk; have := HF2.out.size; omega))
      exact hR.out _ _ ⟨_, _, rfl, h6, h7, hFb⟩
    · obtain ⟨q1, q2, rfl, hq1, hq2⟩ := List.map_eq_append_iff.1 hleft
      obtain ⟨⟨k, z⟩, q3, rfl, hx, hq3⟩ := List.map_eq_cons_iff.1 hq2
      simp only [encV, Prod.mk.injEq] at hx
      obtain ⟨rfl, rfl⟩ := hx
      have hI2 : IterIs balE w' r b ((q1 ++ q3).map encV) := by rw [List.map_append, hq1, hq3]; exact hI'
      have hFw : Fr [] w w' := HFr.out.trans hF' (fun y hy => .inr (by simp at hy; subst hy; exact hrw))
      have hown2 := row_fr hown hF' (fun k hk hk2 => by simp at hk2; subst hk2; have := HB.out _ hk; omega)
      obtain ⟨⟨K, V, F⟩, hwf⟩ := k
      obtain ⟨W3, hW3⟩ : ∃ W3, W3 = w'.alloc (.cells #[.int .i64 K, .int .i64 V, .int .i64 F] 113 (0, 0)) := ⟨_, rfl⟩
      have hF3 : Fr [] w' W3 := by rw [hW3]; exact (Fr.refl _ _).alloc _
      have hbk : W3.heap[w'.heap.size]? = some (.cells #[.int .i64 K, .int .i64 V, .int .i64 F] 113 (0, 0)) := by rw [hW3]; exact heap_alloc_new w' _
      have k0 : W3.cell? ⟨w'.heap.size, 0, none⟩ = some (.int .i64 K) := cell_of hbk 0
      have k1 : W3.cell? ⟨w'.heap.size, 1, none⟩ = some (.int .i64 V) := cell_of hbk 1
      have k2 : W3.cell? ⟨w'.heap.size, 2, none⟩ = some (.int .i64 F) := cell_of hbk 2
      have hsz2 : w'.heap.size < W3.heap.size := lt_cell k2
      have HC3 := Lib.hid (HC.out W3 ⟨(K, V, F), hwf⟩ z (hFw.trans hF3 (by simp)))
      have hmsplit : l.length + (q1 ++ q3).length + 1 ≤ m.length := by simp at hlen ⊢; omega
      have hgl : (q1 ++ q3).length < (q1 ++ (⟨(K, V, F), hwf⟩, z) :: q3).length := by simp
      simp only [balE] at hnext hentry
      clear hleft hq1 hq2 hq3 hI' hbk
      have HI2 := Lib.hid hI2
      have HFw := Lib.hid hFw
      have HO2 := Lib.hid hown2
      have HF3 := Lib.hid hF3
      have hsw : W2.heap.size ≤ w'.heap.size := by omega
      clear hI2 hFw hown2 hF3 hF' hown hsz'
      by_cases hH : H ⟨(K, V, F), hwf⟩ z = true
      · rw [hH] at HC3
        have HH := Lib.hid hH
        clear hH
        go_upto_region 5 with (fail)
        rw [← hW3]
        clear hW3 hnext hentry
        have hb1 : l.length < maxLen := by unfold maxLen; omega
        have hb2 : (l.length + 1) * 8 ≤ 140737488355328 := by omega
        go_wp2_with (first
          | (go_at_call 71; refine HC3.out.mono ?_; rintro e w4 ⟨rfl, hF4⟩; have hown4 := row_fr HO2.out (HF3.out.trans hF4 (by simp)) (by simp); have k24 := (hF4.cell (p := ⟨w'.heap.size, 2, none⟩) hsz2 (by simp)).trans k2; have hs4 := hF4.size; have HF4 := Lib.hid hF4; clear hF4)
          | (at_builtin; refine wp_append1 rfl _ _ 22 3 rfl Tryz.underlying22 infoZ rfl (by decide) hown4 rfl [.int .i64 F] rfl rfl (by simp [Value.oneCell']) hb1 hb2 ?_; intro A2 cp2 w5 hown5 hF5 hN5))
        go_roundg (q1 ++ q3).length
        case measure => exact hgl
        case rel =>
          have hF45 : Fr [] w' w4 := HF3.out.trans HF4.out (by simp)
          have hbl : ∀ k ∈ u5.ownBlock.toList, W2.heap.size ≤ k := HB.out
          refine ⟨q1 ++ q3, l ++ [F], rfl, ?_, ?_, ?_, ?_, ?_, ?_, ?_⟩
          · have h1 := HI2.out.fr hF45 (by simp) (by simp)
            exact h1.fr hF5 (fun h => by have := hbl _ h; have := HF2.out.size; omega) (fun h => by have := hbl _ h; omega)
          · simpa using hown5
          · intro x
            rw [← HS.out x]
            have hs1 : selP H (q1 ++ (⟨(K, V, F), hwf⟩, z) :: q3) = selP H q1 ++ F :: selP H q3 := by rw [selP_append]; simp [selP, HH.out]
            rw [hs1, selP_append]
            simp only [List.mem_append, List.mem_cons, List.not_mem_nil, or_false]
            constructor
            · rintro ((h | h) | h | h) <;> simp [h]
            · rintro (h | h | h | h) <;> simp [h]
          · exact (HFw.out.trans hF45 (by simp)).trans hF5 (fun k hk => .inr (by have := hbl _ hk; have := HF2.out.size; omega))
          · intro k hk
            rcases hN5 k hk with h | h
            · exact hbl _ h
            · omega
          · simp at hmsplit ⊢; omega
          · have := hF5.size; omega
      · have hH : H ⟨(K, V, F), hwf⟩ z = false := by simpa using hH
        rw [hH] at HC3
        have HH := Lib.hid hH
        clear hH
        go_upto_region 5 with (fail)
        rw [← hW3]
        clear hW3 hnext hentry
        go_wp2_with (go_at_call 71; refine HC3.out.mono ?_; rintro e w4 ⟨rfl, hF4⟩)
        go_roundg (q1 ++ q3).length
        case measure => exact hgl
        case rel =>
          have hF45 : Fr [] w' w4 := HF3.out.trans hF4 (by simp)
          refine ⟨q1 ++ q3, l, rfl, HI2.out.fr hF45 (by simp) (by simp), row_fr HO2.out hF45 (by simp), ?_, HFw.out.trans hF45 (by simp), HB, by simp at hmsplit ⊢; omega, by have := hF4.size; omega⟩
          intro x
          rw [← HS.out x]
          have hs1 : selP H (q1 ++ (⟨(K, V, F), hwf⟩, z) :: q3) = selP H q1 ++ selP H q3 := by rw [selP_append]; simp [selP, HH.out]
          rw [hs1, selP_append]
set_option maxHeartbeats 4000000 in
set_option maxRecDepth 100000 in
theorem whoAll {w0 w : World} {p : Nat} {st : List Int} {m : List (Bal × Int)} (h : Tl w0 w p st m) (hm : m.length < 1099511627776) {p1 p2 : Nat} {H : Bal → Int → Bool}
    (hc : ∀ (w' : World) (q : Bal) (y : Int), Fr [] w w' → Calls Tryz.prog 87 #[balE q, .int .i64 y, .pointer (some ⟨p1, 0, none⟩), .pointer (some ⟨p2, 0, none⟩)] w' fun e w'' => e = .returned (.bool (H q y)) ∧ Fr [] w' w'') :
    Calls Tryz.prog 70 #[.pointer (some ⟨p, 0, none⟩), .func (.func 87) #[] #[.pointer (some ⟨p1, 0, none⟩), .pointer (some ⟨p2, 0, none⟩)]] w fun e w' => ∃ A c, e = .returned (.slice A (whoP H m).length c) ∧ (whoP H m).length ≤ c ∧ (Kd.int .i64).C w' A (whoP H m).length (whoP H m) ∧ Fr [] w w' := by
  obtain ⟨b, A, c, h⟩ := h
  obtain ⟨ob, hranges, hI⟩ := IterIs.begin (P := Tryz.prog) (k := 113) h.map
  have hrange := hranges 114 3 Tryz.underlying114
  have c1 : w.cell? ⟨p, 1, none⟩ = some (.map (some b)) := cell_of h.obj 1
  have hF2 : Fr [] w (w.alloc ob) := (Fr.refl _ _).alloc _
  obtain ⟨r, hr⟩ : ∃ r, r = w.heap.size := ⟨_, rfl⟩
  obtain ⟨W2, hW2⟩ : ∃ W2, W2 = w.alloc ob := ⟨_, rfl⟩
  rw [← hr, ← hW2] at hrange hI
  rw [← hW2] at hF2
  refine calls_k fun R hR => ?_
  have hrw : w.heap.size ≤ r := Nat.le_of_eq hr.symm
  have hr2 : r < W2.heap.size := hI.lt.2
  have hb2 : b < w.heap.size := by obtain ⟨es, cl, g, _⟩ := h.map; exact (Array.getElem?_eq_some_iff.1 g).1
  have HC := Lib.hid hc
  have HI := Lib.hid hI
  have HF2 := Lib.hid hF2
  clear h hc hI hF2
  clear hr hW2 hranges
  go_enter Tryz.func70, Tryz.ntmps70
  go_upto_region 3 with (fail)
  clear hrange c1
  go_loopg [5] m.length (fun gn v wr => ∃ (left : List (Bal × Int)) (l : List Int), gn = left.length ∧ Hid (IterIs balE wr r b (left.map encV)) ∧ wr.ownsRow 0 3 1 v l.length (l.map (Value.int .i64)) ∧ Hid (∀ x, x ∈ l ∨ x ∈ selP H left ↔ x ∈ selP H m) ∧ Hid (Fr [] w wr) ∧ Hid (∀ k ∈ v.ownBlock.toList, W2.heap.size ≤ k) ∧ l.length + left.length ≤ m.length ∧ W2.heap.size ≤ wr.heap.size)
  case atStart => exact ⟨m, [], rfl, HI, World.ownsRow_nil _ _ _ _, by intro x; simp, HF2, by intro k hk; simp [Value.ownBlock] at hk, by simp, Nat.le_refl _⟩
  case round =>
    obtain ⟨left, l, rfl, HIr, hown, HS, HFr, HB, hlen, hsz⟩ := hrel
    have hll : l.length < 1099511627776 := by omega
    rcases HIr.out.run_next (P := Tryz.prog) 0 with ⟨hnil, hnext⟩ | ⟨l1, x, y, l2, w', hleft, hnext, hI', hF', hsz', hentry⟩
    · have hl0 : left = [] := by simpa using hnil
      subst hl0
      have hu : whoP H m = uniq l := uniq_perm (fun x => by rw [← HS.out x]; simp [selP])
      rw [hu] at hR
      obtain ⟨s, hs⟩ : ∃ s, s = l.mergeSort fun x y => decide (x ≤ y) := ⟨_, rfl⟩
      have hsl : s.length = l.length := by rw [hs]; exact List.length_mergeSort l
      have HSO := Lib.hid (sort_own hown (by omega))
      rw [← hs, ← hsl] at HSO
      rw [show uniq l = Go.Lib.compact s by rw [hs]; rfl] at hR
      have hs9 : s.length ≤ 9223372036854775807 := by omega
      have HO := Lib.hid hown
      clear hown hnil hu hs hsl
      go_wp2_with (first
        | (go_at_call 80; refine HSO.out.mono ?_; rintro e w1 ⟨rfl, h1, h2⟩; have HC := Lib.hid (compact_own h1 hs9); have H2 := Lib.hid h2; clear h1 h2)
        | (go_at_call 86; refine HC.out.mono ?_; rintro e w3 ⟨A3, c3, rfl, h3, h4, h5⟩))
      obtain ⟨A4, c4, he4, h6, h7⟩ := Kd.R_reads (Kd.R_of_own (ok := fun _ => True) h3 (fun _ _ => trivial))
      injection he4 with e1 e2 e3
      subst e1 e3
      have hb1 : ∀ k, u5.ownBlock = some k → W2.heap.size ≤ k := fun k hk => HB.out k (by simp [hk])
      have hFa := HFr.out.trans (Fr.grown (S := u5.ownBlock.toList) H2.out (fun k hk => .inl (by simp [hk]))) (fun k hk => .inr (by have := HB.out k hk; have := HF2.out.size; omega))
      have hFb := hFa.trans (Fr.grown (S := u5.ownBlock.toList) h5 (fun k hk => .inl (by simp [hk]))) (fun k hk => .inr (by have := HB.out k hk; have := HF2.out.size; omega))
      exact hR.out _ _ ⟨_, _, rfl, h6, h7, hFb⟩
    · obtain ⟨q1, q2, rfl, hq1, hq2⟩ := List.map_eq_append_iff.1 hleft
      obtain ⟨⟨k, z⟩, q3, rfl, hx, hq3⟩ := List.map_eq_cons_iff.1 hq2
      simp only [encV, Prod.mk.injEq] at hx
      obtain ⟨rfl, rfl⟩ := hx
      have hI2 : IterIs balE w' r b ((q1 ++ q3).map encV) := by rw [List.map_append, hq1, hq3]; exact hI'
      have hFw : Fr [] w w' := HFr.out.trans hF' (fun y hy => .inr (by simp at hy; subst hy; exact hrw))
      have hown2 := row_fr hown hF' (fun k hk hk2 => by simp at hk2; subst hk2; have := HB.out _ hk; omega)
      obtain ⟨⟨K, V, F⟩, hwf⟩ := k
      obtain ⟨W3, hW3⟩ : ∃ W3, W3 = w'.alloc (.cells #[.int .i64 K, .int .i64 V, .int .i64 F] 113 (0, 0)) := ⟨_, rfl⟩
      have hF3 : Fr [] w' W3 := by rw [hW3]; exact (Fr.refl _ _).alloc _
      have hbk : W3.heap[w'.heap.size]? = some (.cells #[.int .i64 K, .int .i64 V, .int .i64 F] 113 (0, 0)) := by rw [hW3]; exact heap_alloc_new w' _
      have k0 : W3.cell? ⟨w'.heap.size, 0, none⟩ = some (.int .i64 K) := cell_of hbk 0
      have k1 : W3.cell? ⟨w'.heap.size, 1, none⟩ = some (.int .i64 V) := cell_of hbk 1
      have k2 : W3.cell? ⟨w'.heap.size, 2, none⟩ = some (.int .i64 F) := cell_of hbk 2
      have hsz2 : w'.heap.size < W3.heap.size := lt_cell k2
      have HC3 := Lib.hid (HC.out W3 ⟨(K, V, F), hwf⟩ z (hFw.trans hF3 (by simp)))
      have hmsplit : l.length + (q1 ++ q3).length + 1 ≤ m.length := by simp at hlen ⊢; omega
      have hgl : (q1 ++ q3).length < (q1 ++ (⟨(K, V, F), hwf⟩, z) :: q3).length := by simp
      simp only [balE] at hnext hentry
      clear hleft hq1 hq2 hq3 hI' hbk
      have HI2 := Lib.hid hI2
      have HFw := Lib.hid hFw
      have HO2 := Lib.hid hown2
      have HF3 := Lib.hid hF3
      have hsw : W2.heap.size ≤ w'.heap.size := by omega
      clear hI2 hFw hown2 hF3 hF' hown hsz'
      by_cases hH : H ⟨(K, V, F), hwf⟩ z = true
      · rw [hH] at HC3
        have HH := Lib.hid hH
        clear hH
        go_upto_region 5 with (fail)
        rw [← hW3]
        clear hW3 hnext hentry
        have hb1 : l.length < maxLen := by unfold maxLen; omega
        have hb2 : (l.length + 1) * 8 ≤ 140737488355328 := by omega
        go_wp2_with (first
          | (go_at_call 87; refine HC3.out.mono ?_; rintro e w4 ⟨rfl, hF4⟩; have hown4 := row_fr HO2.out (HF3.out.trans hF4 (by simp)) (by simp); have k24 := (hF4.cell (p := ⟨w'.heap.size, 2, none⟩) hsz2 (by simp)).trans k2; have hs4 := hF4.size; have HF4 := Lib.hid hF4; clear hF4)
          | (at_builtin; refine wp_append1 rfl _ _ 22 3 rfl Tryz.underlying22 infoZ rfl (by decide) hown4 rfl [.int .i64 F] rfl rfl (by simp [Value.oneCell']) hb1 hb2 ?_; intro A2 cp2 w5 hown5 hF5 hN5))
        go_roundg (q1 ++ q3).length
        case measure => exact hgl
        case rel =>
          have hF45 : Fr [] w' w4 := HF3.out.trans HF4.out (by simp)
          have hbl : ∀ k ∈ u5.ownBlock.toList, W2.heap.size ≤ k := HB.out
          refine ⟨q1 ++ q3, l ++ [F], rfl, ?_, ?_, ?_, ?_, ?_, ?_, ?_⟩
          · have h1 := HI2.out.fr hF45 (by simp) (by simp)
            exact h1.fr hF5 (fun h => by have := hbl _ h; have := HF2.out.size; omega) (fun h => by have := hbl _ h; omega)
          · simpa using hown5
          · intro x
            rw [← HS.out x]
            have hs1 : selP H (q1 ++ (⟨(K, V, F), hwf⟩, z) :: q3) = selP H q1 ++ F :: selP H q3 := by rw [selP_append]; simp [selP, HH.out]
            rw [hs1, selP_append]
            simp only [List.mem_append, List.mem_cons, List.not_mem_nil, or_false]
            constructor
            · rintro ((h | h) | h | h) <;> simp [h]
            · rintro (h | h | h | h) <;> simp [h]
          · exact (HFw.out.trans hF45 (by simp)).trans hF5 (fun k hk => .inr (by have := hbl _ hk; have := HF2.out.size; omega))
          · intro k hk
            rcases hN5 k hk with h | h
            · exact hbl _ h
            · omega
          · simp at hmsplit ⊢; omega
          · have := hF5.size; omega
      · have hH : H ⟨(K, V, F), hwf⟩ z = false := by simpa using hH
        rw [hH] at HC3
        have HH := Lib.hid hH
        clear hH
        go_upto_region 5 with (fail)
        rw [← hW3]
        clear hW3 hnext hentry
        go_wp2_with (go_at_call 87; refine HC3.out.mono ?_; rintro e w4 ⟨rfl, hF4⟩)
        go_roundg (q1 ++ q3).length
        case measure => exact hgl
        case rel =>
          have hF45 : Fr [] w' w4 := HF3.out.trans hF4 (by simp)
          refine ⟨q1 ++ q3, l, rfl, HI2.out.fr hF45 (by simp) (by simp), row_fr HO2.out hF45 (by simp), ?_, HFw.out.trans hF45 (by simp), HB, by simp at hmsplit ⊢; omega, by have := hF4.size; omega⟩
          intro x
          rw [← HS.out x]
          have hs1 : selP H (q1 ++ (⟨(K, V, F), hwf⟩, z) :: q3) = selP H q1 ++ selP H q3 := by rw [selP_append]; simp [selP, HH.out]
          rw [hs1, selP_append]
set_option maxHeartbeats 4000000 in
set_option maxRecDepth 100000 in
theorem whoWho {w0 w : World} {p : Nat} {st : List Int} {m : List (Bal × Int)} (h : Tl w0 w p st m) (hm : m.length < 1099511627776) {p1 p2 p3 : Nat} {H : Bal → Int → Bool}
    (hc : ∀ (w' : World) (q : Bal) (y : Int), Fr [] w w' → Calls Tryz.prog 88 #[balE q, .int .i64 y, .pointer (some ⟨p1, 0, none⟩), .pointer (some ⟨p2, 0, none⟩), .pointer (some ⟨p3, 0, none⟩)] w' fun e w'' => e = .returned (.bool (H q y)) ∧ Fr [] w' w'') :
    Calls Tryz.prog 70 #[.pointer (some ⟨p, 0, none⟩), .func (.func 88) #[] #[.pointer (some ⟨p1, 0, none⟩), .pointer (some ⟨p2, 0, none⟩), .pointer (some ⟨p3, 0, none⟩)]] w fun e w' => ∃ A c, e = .returned (.slice A (whoP H m).length c) ∧ (whoP H m).length ≤ c ∧ (Kd.int .i64).C w' A (whoP H m).length (whoP H m) ∧ Fr [] w w' := by
  obtain ⟨b, A, c, h⟩ := h
  obtain ⟨ob, hranges, hI⟩ := IterIs.begin (P := Tryz.prog) (k := 113) h.map
  have hrange := hranges 114 3 Tryz.underlying114
  have c1 : w.cell? ⟨p, 1, none⟩ = some (.map (some b)) := cell_of h.obj 1
  have hF2 : Fr [] w (w.alloc ob) := (Fr.refl _ _).alloc _
  obtain ⟨r, hr⟩ : ∃ r, r = w.heap.size := ⟨_, rfl⟩
  obtain ⟨W2, hW2⟩ : ∃ W2, W2 = w.alloc ob := ⟨_, rfl⟩
  rw [← hr, ← hW2] at hrange hI
  rw [← hW2] at hF2
  refine calls_k fun R hR => ?_
  have hrw : w.heap.size ≤ r := Nat.le_of_eq hr.symm
  have hr2 : r < W2.heap.size := hI.lt.2
  have hb2 : b < w.heap.size := by obtain ⟨es, cl, g, _⟩ := h.map; exact (Array.getElem?_eq_some_iff.1 g).1
  have HC := Lib.hid hc
  have HI := Lib.hid hI
  have HF2 := Lib.hid hF2
  clear h hc hI hF2
  clear hr hW2 hranges
  go_enter Tryz.func70, Tryz.ntmps70
  go_upto_region 3 with (fail)
  clear hrange c1
  go_loopg [5] m.length (fun gn v wr => ∃ (left : List (Bal × Int)) (l : List Int), gn = left.length ∧ Hid (IterIs balE wr r b (left.map encV)) ∧ wr.ownsRow 0 3 1 v l.length (l.map (Value.int .i64)) ∧ Hid (∀ x, x ∈ l ∨ x ∈ selP H left ↔ x ∈ selP H m) ∧ Hid (Fr [] w wr) ∧ Hid (∀ k ∈ v.ownBlock.toList, W2.heap.size ≤ k) ∧ l.length + left.length ≤ m.length ∧ W2.heap.size ≤ wr.heap.size)
  case atStart => exact ⟨m, [], rfl, HI, World.ownsRow_nil _ _ _ _, by intro x; simp, HF2, by intro k hk; simp [Value.ownBlock] at hk, by simp, Nat.le_refl _⟩
  case round =>
    obtain ⟨left, l, rfl, HIr, hown, HS, HFr, HB, hlen, hsz⟩ := hrel
    have hll : l.length < 1099511627776 := by omega
    rcases HIr.out.run_next (P := Tryz.prog) 0 with ⟨hnil, hnext⟩ | ⟨l1, x, y, l2, w', hleft, hnext, hI', hF', hsz', hentry⟩
    · have hl0 : left = [] := by simpa using hnil
      subst hl0
      have hu : whoP H m = uniq l := uniq_perm (fun x => by rw [← HS.out x]; simp [selP])
      rw [hu] at hR
      obtain ⟨s, hs⟩ : ∃ s, s = l.mergeSort fun x y => decide (x ≤ y) := ⟨_, rfl⟩
      have hsl : s.length = l.length := by rw [hs]; exact List.length_mergeSort l
      have HSO := Lib.hid (sort_own hown (by omega))
      rw [← hs, ← hsl] at HSO
      rw [show uniq l = Go.Lib.compact s by rw [hs]; rfl] at hR
      have hs9 : s.length ≤ 9223372036854775807 := by omega
      have HO := Lib.hid hown
      clear hown hnil hu hs hsl
      go_wp2_with (first
        | (go_at_call 80; refine HSO.out.mono ?_; rintro e w1 ⟨rfl, h1, h2⟩; have HC := Lib.hid (compact_own h1 hs9); have H2 := Lib.hid h2; clear h1 h2)
        | (go_at_call 86; refine HC.out.mono ?_; rintro e w3 ⟨A3, c3, rfl, h3, h4, h5⟩))
      obtain ⟨A4, c4, he4, h6, h7⟩ := Kd.R_reads (Kd.R_of_own (ok := fun _ => True) h3 (fun _ _ => trivial))
      injection he4 with e1 e2 e3
      subst e1 e3
      have hb1 : ∀ k, u5.ownBlock = some k → W2.heap.size ≤ k := fun k hk => HB.out k (by simp [hk])
      have hFa := HFr.out.trans (Fr.grown (S := u5.ownBlock.toList) H2.out (fun k hk => .inl (by simp [hk]))) (fun k hk => .inr (by have := HB.out k hk; have := HF2.out.size; omega))
      have hFb := hFa.trans (Fr.grown (S := u5.ownBlock.toList) h5 (fun k hk => .inl (by simp [hk]))) (fun k hk => .inr (by have := HB.out k hk; have := HF2.out.size; omega))
      exact hR.out _ _ ⟨_, _, rfl, h6, h7, hFb⟩
    · obtain ⟨q1, q2, rfl, hq1, hq2⟩ := List.map_eq_append_iff.1 hleft
      obtain ⟨⟨k, z⟩, q3, rfl, hx, hq3⟩ := List.map_eq_cons_iff.1 hq2
      simp only [encV, Prod.mk.injEq] at hx
      obtain ⟨rfl, rfl⟩ := hx
      have hI2 : IterIs balE w' r b ((q1 ++ q3).map encV) := by rw [List.map_append, hq1, hq3]; exact hI'
      have hFw : Fr [] w w' := HFr.out.trans hF' (fun y hy => .inr (by simp at hy; subst hy; exact hrw))
      have hown2 := row_fr hown hF' (fun k hk hk2 => by simp at hk2; subst hk2; have := HB.out _ hk; omega)
      obtain ⟨⟨K, V, F⟩, hwf⟩ := k
      obtain ⟨W3, hW3⟩ : ∃ W3, W3 = w'.alloc (.cells #[.int .i64 K, .int .i64 V, .int .i64 F] 113 (0, 0)) := ⟨_, rfl⟩
      have hF3 : Fr [] w' W3 := by rw [hW3]; exact (Fr.refl _ _).alloc _
      have hbk : W3.heap[w'.heap.size]? = some (.cells #[.int .i64 K, .int .i64 V, .int .i64 F] 113 (0, 0)) := by rw [hW3]; exact heap_alloc_new w' _
      have k0 : W3.cell? ⟨w'.heap.size, 0, none⟩ = some (.int .i64 K) := cell_of hbk 0
      have k1 : W3.cell? ⟨w'.heap.size, 1, none⟩ = some (.int .i64 V) := cell_of hbk 1
      have k2 : W3.cell? ⟨w'.heap.size, 2, none⟩ = some (.int .i64 F) := cell_of hbk 2
      have hsz2 : w'.heap.size < W3.heap.size := lt_cell k2
      have HC3 := Lib.hid (HC.out W3 ⟨(K, V, F), hwf⟩ z (hFw.trans hF3 (by simp)))
      have hmsplit : l.length + (q1 ++ q3).length + 1 ≤ m.length := by simp at hlen ⊢; omega
      have hgl : (q1 ++ q3).length < (q1 ++ (⟨(K, V, F), hwf⟩, z) :: q3).length := by simp
      simp only [balE] at hnext hentry
      clear hleft hq1 hq2 hq3 hI' hbk
      have HI2 := Lib.hid hI2
      have HFw := Lib.hid hFw
      have HO2 := Lib.hid hown2
      have HF3 := Lib.hid hF3
      have hsw : W2.heap.size ≤ w'.heap.size := by omega
      clear hI2 hFw hown2 hF3 hF' hown hsz'
      by_cases hH : H ⟨(K, V, F), hwf⟩ z = true
      · rw [hH] at HC3
        have HH := Lib.hid hH
        clear hH
        go_upto_region 5 with (fail)
        rw [← hW3]
        clear hW3 hnext hentry
        have hb1 : l.length < maxLen := by unfold maxLen; omega
        have hb2 : (l.length + 1) * 8 ≤ 140737488355328 := by omega
        go_wp2_with (first
          | (go_at_call 88; refine HC3.out.mono ?_; rintro e w4 ⟨rfl, hF4⟩; have hown4 := row_fr HO2.out (HF3.out.trans hF4 (by simp)) (by simp); have k24 := (hF4.cell (p := ⟨w'.heap.size, 2, none⟩) hsz2 (by simp)).trans k2; have hs4 := hF4.size; have HF4 := Lib.hid hF4; clear hF4)
          | (at_builtin; refine wp_append1 rfl _ _ 22 3 rfl Tryz.underlying22 infoZ rfl (by decide) hown4 rfl [.int .i64 F] rfl rfl (by simp [Value.oneCell']) hb1 hb2 ?_; intro A2 cp2 w5 hown5 hF5 hN5))
        go_roundg (q1 ++ q3).length
        case measure => exact hgl
        case rel =>
          have hF45 : Fr [] w' w4 := HF3.out.trans HF4.out (by simp)
          have hbl : ∀ k ∈ u5.ownBlock.toList, W2.heap.size ≤ k := HB.out
          refine ⟨q1 ++ q3, l ++ [F], rfl, ?_, ?_, ?_, ?_, ?_, ?_, ?_⟩
          · have h1 := HI2.out.fr hF45 (by simp) (by simp)
            exact h1.fr hF5 (fun h => by have := hbl _ h; have := HF2.out.size; omega) (fun h => by have := hbl _ h; omega)
          · simpa using hown5
          · intro x
            rw [← HS.out x]
            have hs1 : selP H (q1 ++ (⟨(K, V, F), hwf⟩, z) :: q3) = selP H q1 ++ F :: selP H q3 := by rw [selP_append]; simp [selP, HH.out]
            rw [hs1, selP_append]
            simp only [List.mem_append, List.mem_cons, List.not_mem_nil, or_false]
            constructor
            · rintro ((h | h) | h | h) <;> simp [h]
            · rintro (h | h | h | h) <;> simp [h]
          · exact (HFw.out.trans hF45 (by simp)).trans hF5 (fun k hk => .inr (by have := hbl _ hk; have := HF2.out.size; omega))
          · intro k hk
            rcases hN5 k hk with h | h
            · exact hbl _ h
            · omega
          · simp at hmsplit ⊢; omega
          · have := hF5.size; omega
      · have hH : H ⟨(K, V, F), hwf⟩ z = false := by simpa using hH
        rw [hH] at HC3
        have HH := Lib.hid hH
        clear hH
        go_upto_region 5 with (fail)
        rw [← hW3]
        clear hW3 hnext hentry
        go_wp2_with (go_at_call 88; refine HC3.out.mono ?_; rintro e w4 ⟨rfl, hF4⟩)
        go_roundg (q1 ++ q3).length
        case measure => exact hgl
        case rel =>
          have hF45 : Fr [] w' w4 := HF3.out.trans hF4 (by simp)
          refine ⟨q1 ++ q3, l, rfl, HI2.out.fr hF45 (by simp) (by simp), row_fr HO2.out hF45 (by simp), ?_, HFw.out.trans hF45 (by simp), HB, by simp at hmsplit ⊢; omega, by have := hF4.size; omega⟩
          intro x
          rw [← HS.out x]
          have hs1 : selP H (q1 ++ (⟨(K, V, F), hwf⟩, z) :: q3) = selP H q1 ++ selP H q3 := by rw [selP_append]; simp [selP, HH.out]
          rw [hs1, selP_append]
end Go.Np.Tryz
set_option linter.unusedVariables false
set_option linter.unusedSimpArgs false
namespace Go.Np.Tryz
open Go.RowKit Go.Proofs Go.Proofs.YtgfiglcmhlbjjaaGreatW.PrintWords
abbrev MadeI (w w' : World) (e : Ending) (l : List Int) : Prop := ∃ A c, e = .returned (.slice A l.length c) ∧ l.length ≤ c ∧ (Kd.int .i64).C w' A l.length l ∧ Fr [] w w'
theorem cellF {w w' : World} (hF : Fr [] w w') {a : Addr} {v : Value} (h : w.cell? a = some v) : w'.cell? a = some v := (hF.cell (lt_cell h) (by simp)).trans h
set_option maxHeartbeats 1000000 in
set_option maxRecDepth 100000 in
theorem tWho_calls {w0 w : World} {p : Nat} {st : List Int} {m : List (Bal × Int)} (h : Tl w0 w p st m) (hm : m.length < 1099511627776) (K V X : Int) :
    Calls Tryz.prog 74 #[.pointer (some ⟨p, 0, none⟩), .int .i64 K, .int .i64 V, .int .i64 X] w fun e w' => MadeI w w' e (whoP (hWho K V X) m) := by
  have H := Lib.hid h
  refine calls_k fun R hR => ?_
  clear h
  go_enter Tryz.func74, Tryz.ntmps74
  obtain ⟨W1, hW1⟩ : ∃ W1, W1 = w.alloc (.cells #[.int .i64 K] 3) := ⟨_, rfl⟩
  obtain ⟨W2, hW2⟩ : ∃ W2, W2 = W1.alloc (.cells #[.int .i64 V] 3) := ⟨_, rfl⟩
  obtain ⟨W3, hW3⟩ : ∃ W3, W3 = W2.alloc (.cells #[.int .i64 X] 3) := ⟨_, rfl⟩
  have f1 : Fr [] w W1 := by rw [hW1]; exact (Fr.refl _ _).alloc _
  have f2 : Fr [] W1 W2 := by rw [hW2]; exact (Fr.refl _ _).alloc _
  have f3 : Fr [] W2 W3 := by rw [hW3]; exact (Fr.refl _ _).alloc _
  have s1 : W1.heap.size = w.heap.size + 1 := by rw [hW1]; simp
  have s2 : W2.heap.size = w.heap.size + 1 + 1 := by rw [hW2]; simp [s1]
  have s3 : W3.heap.size = w.heap.size + 1 + 1 + 1 := by rw [hW3]; simp [s2]
  have b1 : W1.heap[w.heap.size]? = some (.cells #[.int .i64 K] 3 (0, 0)) := by rw [hW1]; exact heap_alloc_new _ _
  have b2 : W2.heap[w.heap.size + 1]? = some (.cells #[.int .i64 V] 3 (0, 0)) := by rw [hW2, ← s1]; exact heap_alloc_new _ _
  have b3 : W3.heap[w.heap.size + 1 + 1]? = some (.cells #[.int .i64 X] 3 (0, 0)) := by rw [hW3, ← s2]; exact heap_alloc_new _ _
  have g1 := (f3.block _ (by omega) (by simp)).trans ((f2.block _ (by omega) (by simp)).trans b1)
  have g2 := (f3.block _ (by omega) (by simp)).trans b2
  have fA : Fr [] w W3 := (f1.trans f2 (by simp)).trans f3 (by simp)
  have HA := Lib.hid (whoWho (p1 := w.heap.size) (p2 := w.heap.size + 1) (p3 := w.heap.size + 1 + 1) (H.out.step fA) hm (fun w' q y hF => cWho (cellF hF (cell_of g1 0)) (cellF hF (cell_of g2 0)) (cellF hF (cell_of b3 0)) q y))
  have HFA := Lib.hid fA
  have HW : Hid (W3 = ((w.alloc (.cells #[.int .i64 K] 3)).alloc (.cells #[.int .i64 V] 3)).alloc (.cells #[.int .i64 X] 3)) := by rw [hW3, hW2, hW1]; exact rfl
  clear f1 f2 f3 s1 s2 s3 b1 b2 b3 g1 g2 fA hW1 hW2 hW3
  go_upto_region 1 with (fail)
  rw [← HW.out]
  go_wp2_with (go_at_call 70; refine HA.out.mono ?_; rintro e w4 ⟨A, c, rfl, h1, h2, h3⟩)
  exact hR.out _ _ ⟨A, c, rfl, h1, h2, HFA.out.trans h3 (by simp)⟩
set_option maxHeartbeats 1000000 in
set_option maxRecDepth 100000 in
theorem tAll_calls {w0 w : World} {p : Nat} {st : List Int} {m : List (Bal × Int)} (h : Tl w0 w p st m) (hm : m.length < 1099511627776) (K V : Int) :
    Calls Tryz.prog 72 #[.pointer (some ⟨p, 0, none⟩), .int .i64 K, .int .i64 V] w fun e w' => MadeI w w' e (whoP (hAll K V) m) := by
  have H := Lib.hid h
  refine calls_k fun R hR => ?_
  clear h
  go_enter Tryz.func72, Tryz.ntmps72
  obtain ⟨W1, hW1⟩ : ∃ W1, W1 = w.alloc (.cells #[.int .i64 K] 3) := ⟨_, rfl⟩
  obtain ⟨W2, hW2⟩ : ∃ W2, W2 = W1.alloc (.cells #[.int .i64 V] 3) := ⟨_, rfl⟩
  have f1 : Fr [] w W1 := by rw [hW1]; exact (Fr.refl _ _).alloc _
  have f2 : Fr [] W1 W2 := by rw [hW2]; exact (Fr.refl _ _).alloc _
  have s1 : W1.heap.size = w.heap.size + 1 := by rw [hW1]; simp
  have s2 : W2.heap.size = w.heap.size + 1 + 1 := by rw [hW2]; simp [s1]
  have b1 : W1.heap[w.heap.size]? = some (.cells #[.int .i64 K] 3 (0, 0)) := by rw [hW1]; exact heap_alloc_new _ _
  have b2 : W2.heap[w.heap.size + 1]? = some (.cells #[.int .i64 V] 3 (0, 0)) := by rw [hW2, ← s1]; exact heap_alloc_new _ _
  have g1 := (f2.block _ (by omega) (by simp)).trans b1
  have fA : Fr [] w W2 := f1.trans f2 (by simp)
  have HA := Lib.hid (whoAll (p1 := w.heap.size) (p2 := w.heap.size + 1) (H.out.step fA) hm (fun w' q y hF => cAll (cellF hF (cell_of g1 0)) (cellF hF (cell_of b2 0)) q y))
  have HFA := Lib.hid fA
  have HW : Hid (W2 = (w.alloc (.cells #[.int .i64 K] 3)).alloc (.cells #[.int .i64 V] 3)) := by rw [hW2, hW1]; exact rfl
  clear f1 f2 s1 s2 b1 b2 g1 fA hW1 hW2
  go_upto_region 1 with (fail)
  rw [← HW.out]
  go_wp2_with (go_at_call 70; refine HA.out.mono ?_; rintro e w4 ⟨A, c, rfl, h1, h2, h3⟩)
  exact hR.out _ _ ⟨A, c, rfl, h1, h2, HFA.out.trans h3 (by simp)⟩
end Go.Np.Tryz
set_option linter.unusedVariables false
set_option linter.unusedSimpArgs false
namespace Go.Np
def mostB (st who : List Int) : Bool := decide (3 * wl st who > 2 * tot st)
def someB (st who : List Int) : Bool := decide (3 * wl st who > tot st)
end Go.Np
namespace Go.Np.Tryz
open Go.RowKit Go.Proofs Go.Proofs.YtgfiglcmhlbjjaaGreatW.PrintWords Go.Proofs.YtgfiglcmhlbjjaaGreat.PX
theorem smost_calls {w : World} {st who : List Int} {A B : Option Addr} {c d : Nat} (hst : okS st) (h1 : (Kd.int .i64).C w A st.length st) (hc : st.length ≤ c) (h2 : (Kd.int .i64).C w B who.length who) (hd : who.length ≤ d) :
    Calls Tryz.prog 73 #[.slice A st.length c, .slice B who.length d] w fun e w' => e = .returned (.bool (mostB st who)) ∧ Fr [] w w' := by
  obtain ⟨k, hk⟩ := most_ev hst who
  refine (stake_Most.calls k A c st B d who _ w h1 hc h2 hd (hk k (Nat.le_refl _))).mono ?_
  rintro e w' ⟨rfl, h⟩
  exact ⟨rfl, Fr.of_below [] h⟩
theorem ssome_calls {w : World} {st who : List Int} {A B : Option Addr} {c d : Nat} (hst : okS st) (h1 : (Kd.int .i64).C w A st.length st) (hc : st.length ≤ c) (h2 : (Kd.int .i64).C w B who.length who) (hd : who.length ≤ d) :
    Calls Tryz.prog 67 #[.slice A st.length c, .slice B who.length d] w fun e w' => e = .returned (.bool (someB st who)) ∧ Fr [] w w' := by
  obtain ⟨k, hk⟩ := some_ev hst who
  refine (stake_Some.calls k A c st B d who _ w h1 hc h2 hd (hk k (Nat.le_refl _))).mono ?_
  rintro e w' ⟨rfl, h⟩
  exact ⟨rfl, Fr.of_below [] h⟩
def valP (m : List (Bal × Int)) (K V F : Int) : Int := ((m.find? fun q => decide (q.1.1 = (K, V, F))).map (·.2)).getD 0
theorem alook_find (m : List (Bal × Int)) (k : Bal) : alook m k = (m.find? fun q => decide (q.1.1 = k.1)).map (·.2) := by
  induction m with
  | nil => rfl
  | cons q m ih =>
    obtain ⟨a, x⟩ := q
    by_cases h : a = k
    · simp [alook, h]
    · have h2 : a.1 ≠ k.1 := fun e => h (Subtype.ext e)
      simp [alook, h, h2, List.find?_cons]
      exact ih
def mostV (st : List Int) (m : List (Bal × Int)) (K V F : Int) : Bool := mostB st (whoP (hWho K V (valP m K V F)) m)
def mostP (st : List Int) (m : List (Bal × Int)) (K V : Int) : Int × Bool :=
  match (whoP (hAll K V) m).find? (fun F => mostV st m K V F) with
  | some F => (valP m K V F, true)
  | none => (0, false)
theorem mem_whoP {H : Bal → Int → Bool} {m : List (Bal × Int)} {f : Int} : f ∈ whoP H m ↔ ∃ q ∈ m, H q.1 q.2 = true ∧ q.1.1.2.2 = f := by
  unfold whoP
  rw [uniq_mem, mem_selP]
theorem whoP_wf {K V : Int} {m : List (Bal × Int)} {f : Int} (h : f ∈ whoP (hAll K V) m) : wf64 f := by
  obtain ⟨q, hq, h1, rfl⟩ := mem_whoP.1 h
  exact q.1.2.2.2
theorem find_none_drop {p : Int → Bool} {l : List Int} {k : Nat} (h : ∀ x ∈ l.take k, p x = false) (hk : k < l.length) (hp : p (l.getD k 0) = true) : l.find? p = some (l.getD k 0) := by
  have h2 : l.drop k = l.getD k 0 :: l.drop (k + 1) := by rw [List.getD_eq_getElem?_getD, List.getElem?_eq_getElem hk]; exact List.drop_eq_getElem_cons hk
  have h3 : (l.take k).find? p = none := by rw [List.find?_eq_none]; intro x hx; simp [h x hx]
  conv => lhs; rw [← List.take_append_drop k l, List.find?_append, h2, h3]
  simp only [Option.none_or]
  rw [List.find?_cons, hp]
theorem getD_mem {l : List Int} {k : Nat} (h : k < l.length) : l.getD k 0 ∈ l := by
  rw [List.getD_eq_getElem?_getD, List.getElem?_eq_getElem h]; exact List.getElem_mem h
theorem take_mem_succ {l : List Int} {k : Nat} (h : k < l.length) {x : Int} (hx : x ∈ l.take (k + 1)) : x ∈ l.take k ∨ x = l.getD k 0 := by
  rw [List.take_succ_eq_append_getElem h, List.mem_append] at hx
  rcases hx with hx | hx
  · exact .inl hx
  · right
    rw [List.getD_eq_getElem?_getD, List.getElem?_eq_getElem h]
    simpa using hx
set_option maxHeartbeats 4000000 in
set_option maxRecDepth 100000 in
theorem tMost_calls {w0 w : World} {p : Nat} {st : List Int} {m : List (Bal × Int)} (h : Tl w0 w p st m) (hst : okS st) (hm : m.length < 1099511627776) (K V : Int) (hK : wf64 K) (hV : wf64 V) :
    Calls Tryz.prog 52 #[.pointer (some ⟨p, 0, none⟩), .int .i64 K, .int .i64 V] w fun e w' => e = .returned (.tuple #[.int .i64 (mostP st m K V).1, .bool (mostP st m K V).2]) ∧ Fr [] w w' := by
  obtain ⟨b, A, c, h⟩ := h
  obtain ⟨L, hL⟩ : ∃ L, L = whoP (hAll K V) m := ⟨_, rfl⟩
  have HA : Hid (Calls Tryz.prog 72 #[.pointer (some ⟨p, 0, none⟩), .int .i64 K, .int .i64 V] w fun e w' => MadeI w w' e L) := by rw [hL]; exact tAll_calls ⟨b, A, c, h⟩ hm K V
  have hwf : Hid (∀ f ∈ L, wf64 f) := by intro f hf; rw [hL] at hf; exact whoP_wf hf
  have HVo : Hid (∀ W F, Fr [] w W → wf64 F → Calls Tryz.prog 54 #[.pointer (some ⟨p, 0, none⟩), .int .i64 K, .int .i64 V, .int .i64 F] W fun e w' => ∃ o, e = .returned (.tuple #[.int .i64 (valP m K V F), .bool o]) ∧ Fr [] W w') := by
    intro W F hF hf
    refine (tvote_calls (show Tl w0 W p st m from ⟨b, A, c, h.step hF⟩) ⟨(K, V, F), hK, hV, hf⟩).mono ?_
    rintro e w' ⟨rfl, n, rfl⟩
    rw [alook_find]
    exact ⟨_, rfl, (Fr.refl _ _).drewN n⟩
  have C35 : Hid (∀ W X, Fr [] w W ∧ W.cell? ⟨p, 0, none⟩ = some (.slice A st.length c) → Calls Tryz.prog 74 #[.pointer (some ⟨p, 0, none⟩), .int .i64 K, .int .i64 V, .int .i64 X] W fun e w' => ∃ B d, e = .returned (.slice B (whoP (hWho K V X) m).length d) ∧ (whoP (hWho K V X) m).length ≤ d ∧ (Kd.int .i64).C w' B (whoP (hWho K V X) m).length (whoP (hWho K V X) m) ∧ (Fr [] w w' ∧ w'.cell? ⟨p, 0, none⟩ = some (.slice A st.length c)) ∧ Fr [] W w') := by
    intro W X hW
    refine (tWho_calls (show Tl w0 W p st m from ⟨b, A, c, h.step hW.1⟩) hm K V X).mono ?_
    rintro e w' ⟨B, d, rfl, h1, h2, h3⟩
    exact ⟨B, d, rfl, h1, h2, ⟨hW.1.trans h3 (by simp), cellF h3 hW.2⟩, h3⟩
  have C49 : Hid (∀ W X B d, (Fr [] w W ∧ W.cell? ⟨p, 0, none⟩ = some (.slice A st.length c)) → (Kd.int .i64).C W B (whoP (hWho K V X) m).length (whoP (hWho K V X) m) → (whoP (hWho K V X) m).length ≤ d → Calls Tryz.prog 73 #[.slice A st.length c, .slice B (whoP (hWho K V X) m).length d] W fun e w' => e = .returned (.bool (mostB st (whoP (hWho K V X) m))) ∧ (Fr [] w w' ∧ w'.cell? ⟨p, 0, none⟩ = some (.slice A st.length c)) ∧ Fr [] W w') := by
    intro W X B d hW hC hd
    refine (smost_calls hst (h.step hW.1).row h.cap hC hd).mono ?_
    rintro e w' ⟨rfl, h3⟩
    exact ⟨rfl, ⟨hW.1.trans h3 (by simp), cellF h3 hW.2⟩, h3⟩
  have hcell : w.cell? ⟨p, 0, none⟩ = some (.slice A st.length c) := cell_of h.obj 0
  have hmost : ∀ k, k < L.length → (∀ x ∈ L.take k, mostV st m K V x = false) → mostV st m K V (L.getD k 0) = true → mostP st m K V = (valP m K V (L.getD k 0), true) := by
    intro k hk h1 h2
    unfold mostP
    rw [← hL, find_none_drop h1 hk h2]
  have hnone : (∀ x ∈ L, mostV st m K V x = false) → mostP st m K V = (0, false) := by
    intro h1
    unfold mostP
    rw [← hL, List.find?_eq_none.2 (fun x hx => by simp [h1 x hx])]
  refine calls_k fun R hR => ?_
  have HM := Lib.hid hmost
  have HN := Lib.hid hnone
  have HCE := Lib.hid hcell
  clear h hmost hnone hL hcell
  go_enter Tryz.func52, Tryz.ntmps52
  go_upto_region 2 with (go_at_call 72; refine HA.out.mono ?_; rintro e w1 ⟨B, d, rfl, h1, h2, h3⟩)
  have HC1 := Lib.hid h2
  have HF1 := Lib.hid h3
  have hmx : L.length ≤ 9223372036854775807 := h2.2.1
  clear h1 h2 h3
  go_loopw [17] (fun u wr => ∃ k : Nat, k ≤ L.length ∧ u = .int .i64 k ∧ Hid (∀ x ∈ L.take k, mostV st m K V x = false) ∧ Hid (Fr [] w1 wr)) (fun u _ => L.length - (RowKit.intOf u).toNat)
  case atStart => exact ⟨0, Nat.zero_le _, rfl, by intro x hx; simp at hx, Fr.refl _ _⟩
  case round =>
    obtain ⟨k, hk, rfl, HT, HFr⟩ := hrel
    by_cases hlt : k < L.length
    · obtain ⟨ad, rfl, hcx⟩ := at_int_nat (Kd.C_below HC1.out HFr.out.below) k hlt
      have hFw : Fr [] w wr := HF1.out.trans HFr.out (by simp)
      obtain ⟨F, hF⟩ : ∃ F, F = L.getD k 0 := ⟨_, rfl⟩
      have hFm : F ∈ L := by rw [hF]; exact getD_mem hlt
      have HVk := Lib.hid (HVo.out wr F hFw (hwf.out _ hFm))
      have hsucc : ∀ x ∈ L.take (k + 1), x ∈ L.take k ∨ x = F := by intro x hx; rw [hF]; exact take_mem_succ hlt hx
      have hMk := HM.out k hlt HT.out
      rw [← hF] at hcx hMk
      have HS := Lib.hid hsucc
      have HMk := Lib.hid hMk
      clear hsucc hMk hF hFm
      obtain ⟨X, hX⟩ : ∃ X, X = valP m K V F := ⟨_, rfl⟩
      have hcellr := cellF hFw HCE.out
      have HX := Lib.hid hX
      have HFw := Lib.hid hFw
      rw [← hX] at HVk
      clear hX hFw
      by_cases hmo : mostB st (whoP (hWho K V X) m) = true
      · have C49X : Hid (∀ W B d, (Fr [] w W ∧ W.cell? ⟨p, 0, none⟩ = some (.slice A st.length c)) → (Kd.int .i64).C W B (whoP (hWho K V X) m).length (whoP (hWho K V X) m) → (whoP (hWho K V X) m).length ≤ d → Calls Tryz.prog 73 #[.slice A st.length c, .slice B (whoP (hWho K V X) m).length d] W fun e w' => e = .returned (.bool true) ∧ (Fr [] w w' ∧ w'.cell? ⟨p, 0, none⟩ = some (.slice A st.length c)) ∧ Fr [] W w') := by
          intro W B d h1 h2 h3
          have := C49.out W X B d h1 h2 h3
          rw [hmo] at this
          exact this
        have hmP : mostP st m K V = (X, true) := by rw [HX.out]; exact HMk.out (by unfold mostV; rw [← HX.out]; exact hmo)
        rw [hmP] at hR
        clear hmo hmP
        go_upto_region 5 with (go_at_call 54; refine HVk.out.mono ?_; rintro e w2 ⟨o, rfl, hF2⟩)
        have HS2 : Hid (Fr [] w w2.drew ∧ w2.drew.cell? ⟨p, 0, none⟩ = some (.slice A st.length c)) := ⟨(HFw.out.trans hF2 (by simp)).drew, cellF hF2 hcellr⟩
        have HF2 := Lib.hid hF2
        clear hF2 hcellr hcx
        go_region_held3 (fun W => Fr [] w W ∧ W.cell? ⟨p, 0, none⟩ = some (.slice A st.length c)) (first | exact HS2.out | assumption)
          (first
            | (go_at_call 74; refine (C35.out _ _ (by assumption)).mono ?_; rintro e w3 ⟨B3, d3, rfl, hd3, hC3, hS3, hF3⟩)
            | (go_at_call 73; refine (C49X.out _ _ _ (by assumption) (by assumption) (by assumption)).mono ?_; rintro e w4 ⟨rfl, hS4, hF4⟩))
        all_goals (go_wp2; exact hR.out _ _ ⟨rfl, hS4.1⟩)
      · have hmo : mostB st (whoP (hWho K V X) m) = false := by simpa using hmo
        have C49X : Hid (∀ W B d, (Fr [] w W ∧ W.cell? ⟨p, 0, none⟩ = some (.slice A st.length c)) → (Kd.int .i64).C W B (whoP (hWho K V X) m).length (whoP (hWho K V X) m) → (whoP (hWho K V X) m).length ≤ d → Calls Tryz.prog 73 #[.slice A st.length c, .slice B (whoP (hWho K V X) m).length d] W fun e w' => e = .returned (.bool false) ∧ (Fr [] w w' ∧ w'.cell? ⟨p, 0, none⟩ = some (.slice A st.length c)) ∧ Fr [] W w') := by
          intro W B d h1 h2 h3
          have := C49.out W X B d h1 h2 h3
          rw [hmo] at this
          exact this
        have hn : mostV st m K V F = false := by unfold mostV; rw [← HX.out]; exact hmo
        have HNo := Lib.hid hn
        clear hmo hn
        go_upto_region 5 with (go_at_call 54; refine HVk.out.mono ?_; rintro e w2 ⟨o, rfl, hF2⟩)
        have HS2 : Hid (Fr [] w w2.drew ∧ w2.drew.cell? ⟨p, 0, none⟩ = some (.slice A st.length c)) := ⟨(HFw.out.trans hF2 (by simp)).drew, cellF hF2 hcellr⟩
        have HF2 := Lib.hid hF2
        clear hF2 hcellr hcx
        go_region_held3 (fun W => Fr [] w W ∧ W.cell? ⟨p, 0, none⟩ = some (.slice A st.length c)) (first | exact HS2.out | assumption)
          (first
            | (go_at_call 74; refine (C35.out _ _ (by assumption)).mono ?_; rintro e w3 ⟨B3, d3, rfl, hd3, hC3, hS3, hF3⟩)
            | (go_at_call 73; refine (C49X.out _ _ _ (by assumption) (by assumption) (by assumption)).mono ?_; rintro e w4 ⟨rfl, hS4, hF4⟩))
        all_goals go_wp2
        all_goals go_roundw
        case rel =>
          refine ⟨k + 1, by omega, by go_num, ?_, ((HFr.out.trans HF2.out (by simp)).drew.trans hF3 (by simp)).trans hF4 (by simp)⟩
          intro x hx
          rcases HS.out x hx with h | rfl
          · exact HT.out x h
          · exact HNo.out
        case measure => simp [RowKit.intOf]; omega
    · obtain rfl : k = L.length := by omega
      rw [List.take_length] at HT
      rw [HN.out HT.out] at hR
      go_wp2
      exact hR.out _ _ ⟨rfl, HF1.out.trans HFr.out (by simp)⟩
end Go.Np.Tryz
set_option linter.unusedVariables false
set_option linter.unusedSimpArgs false
namespace Go.Np.Tryz
open Go.RowKit Go.Proofs Go.Shelf Go.Lib
attribute [local go_sem] Oper.semAt_some
abbrev keyE : Int → Value := fun a => Value.int .i64 a
theorem iter_walk {κ : Type} {kE : κ → Value} {w : World} {r b : Nat} {left : List (κ × Value)} (h : IterIs kE w r b left) : ∃ o : Obj, w.heap[r]? = some o ∧ o.isWalk = true := by
  obtain ⟨es, clock, since, seen, last, h1, h2, _⟩ := h
  exact ⟨_, h2, rfl⟩
theorem iter_keeps {κ : Type} {kE : κ → Value} {w w' : World} {r b : Nat} {left : List (κ × Value)} (h : IterIs kE w r b left) (hk : KeepsWalks w w') : IterIs kE w' r b left := by
  obtain ⟨es, clock, since, seen, last, h1, h2, h3⟩ := h
  exact ⟨es, clock, since, seen, last, hk.same b _ h1 rfl, hk.same r _ h2 rfl, h3⟩
theorem grown_fr {r : Nat} {w w' : World} (h : Fr [r] w w') : w.grownBy w' (some r) := ⟨h.os, h.tape, h.output, h.size, fun k hk hn => h.block k hk (by simp; rintro rfl; exact hn rfl)⟩
set_option maxRecDepth 100000 in
set_option maxHeartbeats 2000000 in
theorem ks_keys1_in (F : Fence) (n : Nat) (h7 : F.fn 93) (hro : F.round = none) (hn : 1 ≤ n) (l Bm b : Nat) (mm : List (Int × Value)) (J Jx : List Int → World → Prop)
    (hY : ∀ pre x W, J pre W → pre.length < mm.length → YieldAt F (n - 1) Tryz.prog l #[.int .i64 x] W fun e W' =>
      (e = .returned (.bool true) ∧ J (pre ++ [x]) W' ∧ KeepsWalks W W') ∨ (e = .returned (.bool false) ∧ Jx (pre ++ [x]) W'))
    (W : World) (hJ : AbidesFrom W.heap.size J) (hm : W.cell? ⟨Bm, 0, none⟩ = some (.map (some b))) (hM : MapIs keyE W b mm) (h0 : J [] W) :
    CallsIn F n Tryz.prog 93 #[.func (.yield l) #[] #[], .pointer (some ⟨Bm, 0, none⟩)] W fun e W' => (∃ v, e = .returned v) ∧
      ((∃ ys, ys.Perm (mm.map (·.1)) ∧ J ys W') ∨ (∃ pre : List Int, Jx pre W')) := by
  obtain ⟨ob, hranges, hI⟩ := IterIs.begin (P := Tryz.prog) (k := 3) hM
  have hrange := hranges 137 4 Tryz.underlying137
  clear hranges
  have hJ0 : J [] (W.alloc ob) := hJ [] W _ none h0 (World.grownBy_alloc W ob none) (fun r e => by cases e)
  have hsz0 : W.heap.size ≤ (W.alloc ob).heap.size := by simp
  obtain ⟨r, hr⟩ : ∃ r, r = W.heap.size := ⟨_, rfl⟩
  obtain ⟨W2, hW2⟩ : ∃ W2, W2 = W.alloc ob := ⟨_, rfl⟩
  rw [← hr, ← hW2] at hrange hI
  rw [← hW2] at hJ0
  have hrr : W.heap.size ≤ r := Nat.le_of_eq hr.symm
  clear hr hW2 hsz0
  have HI := Lib.hid hI
  clear hI
  refine callsIn_of_wp Tryz.func93 rfl h7 ?_ hro
  simp only [Tryz.ntmps93, List.size_toArray, List.length_cons, List.length_nil, Nat.reduceAdd, Nat.reduceSub, Array.replicate_succ, Array.replicate_zero, List.push_toArray, List.append_toArray, List.nil_append, List.cons_append]
  gi_wp2
  clear hrange hm
  gi_loopg [3] mm.length (fun gn _ wr => ∃ (left : List (Int × Value)) (ss : List Int), gn = left.length ∧ Hid (IterIs keyE wr r b left) ∧ ss.length + left.length = mm.length ∧ Hid ((ss ++ left.map (·.1)).Perm (mm.map (·.1))) ∧ Hid (J ss wr))
  case atStart => exact ⟨mm, [], rfl, HI, by simp, by show List.Perm _ _; simp, hJ0⟩
  case round =>
    obtain ⟨left, ss, rfl, HIr, hlen, HP, HJ⟩ := hrel
    rcases HIr.out.run_next (P := Tryz.prog) 0 with ⟨rfl, hnext⟩ | ⟨l1, x, y, l2, w', rfl, hnext, hI', hF', hsz', hentry⟩
    · gi_wp2
      go_end0
      exact ⟨⟨_, rfl⟩, .inl ⟨ss, by simpa using HP.out, HJ.out⟩⟩
    · have hJ2 : J ss w' := hJ ss wr w' (some r) HJ.out (grown_fr hF') (fun r' e => by cases e; exact ⟨hrr, iter_walk HIr.out⟩)
      obtain ⟨fn, tmps, assign, body, hy, hR⟩ := hY ss x w' hJ2 (by simp at hlen; omega)
      have HI' := Lib.hid hI'
      have HR := Lib.hid hR
      have hl2 : (l1 ++ l2).length < (l1 ++ (x, y) :: l2).length := by simp
      have hl3 : (ss ++ [x]).length + (l1 ++ l2).length = mm.length := by simp at hlen ⊢; omega
      have hp3 : ((ss ++ [x]) ++ (l1 ++ l2).map (·.1)).Perm (mm.map (·.1)) := by
        refine List.Perm.trans ?_ HP.out
        simp only [List.map_append, List.map_cons, List.append_assoc, List.singleton_append]
        exact List.Perm.append_left _ List.perm_middle.symm
      have HP3 := Lib.hid hp3
      clear hp3 hI' hR hF' hsz' hJ2 HJ HP HIr hlen
      gi_wp2
      refine HR.out.mono ?_
      rintro e W3 (⟨rfl, hJ3, hk3⟩ | ⟨rfl, hJx3⟩)
      · gi_wp2
        go_roundg (l1 ++ l2).length
        case measure => exact hl2
        case rel => exact ⟨l1 ++ l2, ss ++ [x], rfl, iter_keeps HI'.out hk3, hl3, HP3, hJ3⟩
      · gi_wp2
        refine bodyPost_ret (results_none rfl _ _ _) rfl ?_
        exact ⟨⟨_, rfl⟩, .inr ⟨ss ++ [x], hJx3⟩⟩
theorem ks_stops (F : Fence) (n : Nat) (h7 : F.fn 93) (hro : F.round = none) (hn : 1 ≤ n) (Bm b : Nat) (mm : List (Int × Value)) (w : World) (hBs : Bm < w.heap.size)
    (hc : w.cell? ⟨Bm, 0, none⟩ = some (.map (some b))) (hM : MapIs keyE w b mm) :
    SeqStopsK F n Tryz.prog 93 #[.pointer (some ⟨Bm, 0, none⟩)] (fun x : Int => #[Value.int .i64 x]) KeepsWalks (fun ys => ys.Perm (mm.map (·.1))) (fun _ => True) mm.length w := fun l J Jx W hW hJ _ hY h0 => by
  have hbl : b < w.heap.size := by obtain ⟨es, cl, g, _⟩ := hM; exact (Array.getElem?_eq_some_iff.1 g).1
  refine (ks_keys1_in F n h7 hro hn l Bm b mm J Jx hY W hJ ((hW.cell (p := ⟨Bm, 0, none⟩) hBs).trans hc) (hM.move (hW.block b hbl)) h0).mono ?_
  rintro e W' ⟨he, h | ⟨pre, hj⟩⟩
  · exact ⟨he, .inl h⟩
  · exact ⟨he, .inr ⟨pre, trivial, hj⟩⟩
set_option maxRecDepth 100000 in
set_option maxHeartbeats 2000000 in
theorem ks_appendSeq_in (Bm b : Nat) (mm : List (Int × Value)) (hreach : mm.length * 8 ≤ 140737488351232) (w : World) (hBs : Bm < w.heap.size) (hc : w.cell? ⟨Bm, 0, none⟩ = some (.map (some b))) (hM : MapIs keyE w b mm) :
    CallsIn Fence.wide 6 Tryz.prog 90 #[.slice none 0 0, .func (.func 93) #[] #[.pointer (some ⟨Bm, 0, none⟩)]] w fun e W' => ∃ (v : Value) (ys : List Int), e = .returned v ∧ ys.Perm (mm.map (·.1)) ∧ W'.ownsRow w.heap.size 3 1 v ys.length (ys.map (Value.int .i64)) ∧ Below w.heap.size w W' := by
  have hlen : mm.length ≤ maxLen := by unfold maxLen; omega
  have hbytes : mm.length * 8 ≤ 140737488355328 := by omega
  obtain ⟨i0, hi, hz0, hz1, hz2⟩ := info_parts infoZ
  refine callsIn_of_wp_marks Tryz.func90 rfl trivial ?_ rfl
  simp only [Tryz.ntmps90, List.size_toArray, List.length_cons, List.length_nil, Nat.reduceAdd, Nat.reduceSub, Array.replicate_succ, Array.replicate_zero, List.push_toArray, List.append_toArray, List.nil_append, List.cons_append]
  gi_wp2
  have bO := Boxed.new w 22 (.slice none 0 0)
  have hB0 : Below w.heap.size w (w.alloc (.cells #[.slice none 0 0] 22)) := (Below.refl _ w).alloc (Nat.le_refl _) _
  refine wpIn_rangeFunc_ownG rfl (by omega) (gf := 93) (lb := #[.pointer (some ⟨Bm, 0, none⟩)]) rfl trivial (enters_of Tryz.func93 (by kernel_rfl) rfl)
    (ks_stops Fence.wide 5 trivial rfl (by omega) Bm b mm (w.alloc (.cells #[.slice none 0 0] 22)) (by simp; omega) ((hB0.cell (p := ⟨Bm, 0, none⟩) hBs).trans hc) (hM.alloc _)) walksK_t (fun W l o o' => walksK_b (w := w) W l o o' ∘ (fun h => by simp at h; omega)) (Below.refl _ _) (fun _ => rfl)
    (fun pre W => (∃ v, Boxed W w.heap.size 22 v ∧ W.ownsRow w.heap.size 3 1 v pre.length (pre.map (Value.int .i64)) ∧ (v = .slice none 0 0 ↔ pre = [])) ∧ Below w.heap.size w W)
    (fun _ _ _ => False)
    (OwnFrom.and (Own.from (holdsRow_own w.heap.size w.heap.size 22 3 1 (fun pre => pre.length) (fun pre => pre.map (Value.int .i64)) (fun pre v => v = .slice none 0 0 ↔ pre = [])) _) (ownFrom_below (Nat.le_refl _) (by simp)))
    (fun _ _ _ _ _ hs _ _ => hs)
    ⟨⟨_, bO, World.ownsRow_nil _ _ _ _, by simp⟩, hB0⟩
    (fun x => { tmps := #[.slice none 0 0, .func (.func 93) #[] #[.pointer (some ⟨Bm, 0, none⟩)], .pointer (some ⟨w.heap.size, 0, none⟩), undef, .slice none 0 0, .int .i64 x, .func (.func 93) #[] #[.pointer (some ⟨Bm, 0, none⟩)], .int .i64 x, undef, undef, undef, undef, undef], defers := [] }) ?assign ?body ?done ?stop
  case assign =>
    intro l x W K hK
    gi_wp2
    exact hK
  case body =>
    rintro l pre x W ⟨⟨v, hv, hrow, hnil⟩, hB⟩ hlt
    have hc := hv.cell
    gi_wp2_with (gi_at_builtin; refine wpListIn_append_own _ rfl _ _ 22 rfl w.heap.size 3 i0 (.int .i64 0) 1 8 Tryz.underlying22 hi hz0 hz1 hz2 rfl (by decide) _ _ _ rfl (hrow.alloc _) ⟨W.heap.size, 0, none⟩ 1 1 [.int .i64 x] rfl rfl (cell_one_new _ _ _) (by simp [Value.oneCell']) (by omega) (by omega) (by have := hB.size; simp; omega) ?_; intro v' w1 hown' hgrow _; obtain ⟨g', cap', rfl⟩ := ownsRow_succ hown'; obtain ⟨hv1, hv2, hr2, hk2, hb2⟩ := hv.appended (by decide) hrow hB.size (Nat.le_refl _) hown' hgrow; have hc1 := hv1.cell; have hf1 := hv1.frozen)
    exact ⟨hk2.from _, ⟨hk2.size, fun k o ho hw => hk2.same k o ho (Obj.not_cells_of_walk hw)⟩, ⟨_, hv2, by simpa using hr2, by simp⟩, hB.trans hb2⟩
  case done =>
    rintro D ys W hD hperm ⟨⟨v, hv, hrow, hnil⟩, hB⟩ hK
    have hc := hv.cell
    gi_wp2
    refine ⟨by simp, .inl ⟨_, _, rfl, run_takeDeferred hK, ?_⟩⟩
    exact ⟨_, results_tmp rfl _ _ _, v, ys, rfl, hperm, ownsRow_putObj hrow _ hK rfl, hB.trans (belowK_b (w := w) (Nat.le_refl _) W D _ _ (by simp at hD; omega) hK rfl rfl)⟩
  case stop =>
    rintro D c pre W _ _ h _
    exact h.elim
set_option maxHeartbeats 1000000 in
theorem ks_keys_in (F : Fence) (n : Nat) (h5 : F.fn 85) (hro : F.round = none) (b : Nat) (w : World) :
    CallsIn F n Tryz.prog 85 #[.map (some b)] w fun e w' => e = .returned (.func (.func 93) #[] #[.pointer (some ⟨w.heap.size, 0, none⟩)]) ∧ w' = w.alloc (.cells #[.map (some b)] 137) := by
  refine callsIn_of_wp Tryz.func85 rfl h5 ?_ hro
  simp only [Tryz.ntmps85, List.size_toArray, List.length_cons, List.length_nil, Nat.reduceAdd, Nat.reduceSub, Array.replicate_succ, Array.replicate_zero, List.push_toArray, List.append_toArray, List.nil_append, List.cons_append]
  gi_wp2
  go_ret
  exact ⟨rfl, rfl⟩
set_option maxHeartbeats 1000000 in
set_option maxRecDepth 100000 in
theorem ks_collect {w : World} (Bm b : Nat) (mm : List (Int × Value)) (hreach : mm.length * 8 ≤ 140737488351232) (hBs : Bm < w.heap.size) (hc : w.cell? ⟨Bm, 0, none⟩ = some (.map (some b))) (hM : MapIs keyE w b mm) :
    Calls Tryz.prog 79 #[.func (.func 93) #[] #[.pointer (some ⟨Bm, 0, none⟩)]] w fun e W' => ∃ (v : Value) (ys : List Int), e = .returned v ∧ ys.Perm (mm.map (·.1)) ∧ W'.ownsRow w.heap.size 3 1 v ys.length (ys.map (Value.int .i64)) ∧ Below w.heap.size w W' := by
  have HA := Lib.hid ((callsIn_wide (n := 6)).1 (ks_appendSeq_in Bm b mm hreach w hBs hc hM))
  refine calls_k fun R hR => ?_
  clear hM hc
  go_enter Tryz.func79, Tryz.ntmps79
  go_wp2_with (go_at_call 90; refine HA.out.mono ?_; rintro e w1 ⟨v, ys, rfl, h1, h2, h3⟩)
  exact hR.out _ _ ⟨v, ys, rfl, h1, h2, h3⟩
set_option maxHeartbeats 1000000 in
set_option maxRecDepth 100000 in
theorem ks_sorted {w : World} (Bm b : Nat) (mm : List (Int × Value)) (hreach : mm.length * 8 ≤ 140737488351232) (hBs : Bm < w.heap.size) (hc : w.cell? ⟨Bm, 0, none⟩ = some (.map (some b))) (hM : MapIs keyE w b mm) :
    Calls Tryz.prog 65 #[.func (.func 93) #[] #[.pointer (some ⟨Bm, 0, none⟩)]] w fun e W' => ∃ v, e = .returned v ∧ W'.ownsRow w.heap.size 3 1 v (uniq (mm.map (·.1))).length ((uniq (mm.map (·.1))).map (Value.int .i64)) ∧ Below w.heap.size w W' := by
  have HA := Lib.hid (ks_collect Bm b mm hreach hBs hc hM)
  have hnd : (mm.map (·.1)).Nodup := by obtain ⟨es, cl, _, _, _, _, g⟩ := hM; exact g
  have HND : Hid (∀ ys : List Int, ys.Perm (mm.map (·.1)) → ys.length = mm.length ∧ (ys.mergeSort fun x y => decide (x ≤ y)) = uniq (mm.map (·.1)) ∧ ys.length = (uniq (mm.map (·.1))).length) := by
    intro ys hp
    have e1 : (ys.mergeSort fun x y => decide (x ≤ y)) = uniq (mm.map (·.1)) := by
      refine strict_ext _ _ ?_ (uniq_strict _) (fun x => by rw [uniq_mem, (List.mergeSort_perm ys _).mem_iff, hp.mem_iff])
      have hs := sorted_ms ys
      have hn : (ys.mergeSort fun x y => decide (x ≤ y)).Nodup := (List.mergeSort_perm ys _).nodup_iff.2 (hp.nodup_iff.2 hnd)
      exact (hs.and hn).imp (fun h => by obtain ⟨h1, h2⟩ := h; omega)
    refine ⟨by simpa using hp.length_eq, e1, ?_⟩
    rw [← e1, List.length_mergeSort]
  refine calls_k fun R hR => ?_
  clear hM hc hnd
  go_enter Tryz.func65, Tryz.ntmps65
  go_wp2_with (first
    | (go_at_call 79; refine HA.out.mono ?_; rintro e w1 ⟨v, ys, rfl, hp, h1, h2⟩; obtain ⟨n1, n2, n3⟩ := HND.out ys hp; have HS := Lib.hid (sort_own h1 (by omega)); rw [n2, n3] at HS; have H2 := Lib.hid h2; clear h1 h2 hp n1 n2 n3)
    | (go_at_call 80; refine HS.out.mono ?_; rintro e w2 ⟨rfl, h3, h4⟩))
  exact hR.out _ _ ⟨v, rfl, h3, H2.out.grown h4 H2.out.size (fun k hk => Go.Proofs.YtgfiglcmhlbjjaaGreatW.PrintWords.own_base h3 k hk)⟩
end Go.Np.Tryz
set_option linter.unusedVariables false
set_option linter.unusedSimpArgs false
namespace Go.Np
theorem aput_mem {κ β : Type} [DecidableEq κ] (m : List (κ × β)) (a : κ) (v : β) (x : κ) : x ∈ (aput m a v).map (·.1) ↔ x = a ∨ x ∈ m.map (·.1) := by
  induction m with
  | nil => simp [aput]
  | cons q m ih =>
    obtain ⟨c, u⟩ := q
    by_cases h : c = a
    · subst h; simp [aput]
    · simp only [aput, h, if_false, List.map_cons, List.mem_cons, ih]
      constructor
      · rintro (h1 | h1 | h1) <;> simp [h1]
      · rintro (h1 | h1 | h1) <;> simp [h1]
theorem aput_len {κ β : Type} [DecidableEq κ] (m : List (κ × β)) (a : κ) (v : β) : (aput m a v).length ≤ m.length + 1 := by
  induction m with
  | nil => simp [aput]
  | cons q m ih =>
    obtain ⟨c, u⟩ := q
    by_cases h : c = a <;> simp [aput, h]
    exact ih
end Go.Np
namespace Go.Np.Tryz
open Go.RowKit Go.Proofs Go.Proofs.YtgfiglcmhlbjjaaGreatW.PrintWords
def viewsP (m : List (Bal × Int)) : List Int := uniq (m.map fun q => q.1.1.2.1)
set_option maxHeartbeats 4000000 in
set_option maxRecDepth 100000 in
theorem tviews_calls {w0 w : World} {p : Nat} {st : List Int} {m : List (Bal × Int)} (h : Tl w0 w p st m) (hm : m.length < 1099511627776) :
    Calls Tryz.prog 69 #[.pointer (some ⟨p, 0, none⟩)] w fun e w' => MadeI w w' e (viewsP m) := by
  have hmm := @run_makeMap Tryz.prog
  obtain ⟨b, A, c, h⟩ := h
  obtain ⟨W1, hW1⟩ : ∃ W1, W1 = w.alloc (.map #[] 0) := ⟨_, rfl⟩
  obtain ⟨s, hs⟩ : ∃ s, s = w.heap.size := ⟨_, rfl⟩
  have hF1 : Fr [] w W1 := by rw [hW1]; exact (Fr.refl _ _).alloc _
  have hM1 : MapIs keyE W1 s [] := by rw [hW1, hs]; exact MapIs.made w
  have h1 := h.step hF1
  obtain ⟨ob, hranges, hI⟩ := IterIs.begin (P := Tryz.prog) (k := 113) h1.map
  have hrange := hranges 114 3 Tryz.underlying114
  have c1 : W1.cell? ⟨p, 1, none⟩ = some (.map (some b)) := cell_of h1.obj 1
  have hF2 : Fr [] W1 (W1.alloc ob) := (Fr.refl _ _).alloc _
  obtain ⟨r, hr⟩ : ∃ r, r = W1.heap.size := ⟨_, rfl⟩
  have hM2 : MapIs keyE (W1.alloc ob) s [] := hM1.alloc _
  obtain ⟨W2, hW2⟩ : ∃ W2, W2 = W1.alloc ob := ⟨_, rfl⟩
  have hsr : s < W1.heap.size := by obtain ⟨es, cl, g, _⟩ := hM1; exact (Array.getElem?_eq_some_iff.1 g).1
  have hb1 : b < w.heap.size := by obtain ⟨es, cl, g, _⟩ := h.map; exact (Array.getElem?_eq_some_iff.1 g).1
  rw [← hr, ← hW2] at hrange hI
  rw [← hW2] at hF2 hM2
  have hrw : w.heap.size ≤ r := by rw [hr]; exact hF1.size
  have hsw : w.heap.size ≤ s := Nat.le_of_eq hs.symm
  have hsr2 : s < r := by rw [hr]; exact hsr
  have HI := Lib.hid hI
  have HF2 : Hid (Fr [] w W2) := hF1.trans hF2 (by simp)
  have HM2 := Lib.hid hM2
  have HW1 := Lib.hid hW1
  have HS := Lib.hid hs
  clear hranges hr hW2 h h1 hF1 hM1 hF2 hM2 hI hsr hW1 hs
  refine calls_k fun R hR => ?_
  go_enter Tryz.func69, Tryz.ntmps69
  go_upto_region 2 with (fail)
  rw [← HW1.out, ← HS.out]
  clear hmm
  go_upto_region 3 with (fail)
  clear hrange c1
  go_loopg [4] m.length (fun gn _ wr => ∃ (left : List (Bal × Int)) (mm : List (Int × Value)), gn = left.length ∧ Hid (IterIs balE wr r b (left.map encV)) ∧ Hid (MapIs keyE wr s mm) ∧ Hid (∀ x, x ∈ mm.map (·.1) ∨ x ∈ (left.map fun q => q.1.1.2.1) ↔ x ∈ (m.map fun q => q.1.1.2.1)) ∧ Hid (Fr [] w wr) ∧ mm.length + left.length ≤ m.length)
  case atStart => exact ⟨m, [], rfl, HI, HM2, by intro x; simp, HF2, by simp⟩
  case round =>
    obtain ⟨left, mm, rfl, HIr, HMr, HX, HFr, hlen⟩ := hrel
    rcases HIr.out.run_next (P := Tryz.prog) 0 with ⟨hnil, hnext⟩ | ⟨l1, x, y, l2, w', hleft, hnext, hI', hF', hsz', hentry⟩
    · have hl0 : left = [] := by simpa using hnil
      subst hl0
      have hu : viewsP m = uniq (mm.map (·.1)) := uniq_perm (fun x => by rw [← HX.out x]; simp)
      rw [hu] at hR
      have hml : mm.length < 1099511627776 := by simp at hlen; omega
      have HK := Lib.hid ((callsIn_wide (n := 6)).1 (ks_keys_in Fence.wide 6 trivial rfl s wr))
      obtain ⟨W3, hW3⟩ : ∃ W3, W3 = wr.alloc (.cells #[.map (some s)] 137) := ⟨_, rfl⟩
      have hM3 : MapIs keyE W3 s mm := by rw [hW3]; exact HMr.out.alloc _
      have hF3 : Fr [] wr W3 := by rw [hW3]; exact (Fr.refl _ _).alloc _
      have hb3 : W3.heap[wr.heap.size]? = some (.cells #[.map (some s)] 137 (0, 0)) := by rw [hW3]; exact heap_alloc_new _ _
      have HSo := Lib.hid (ks_sorted wr.heap.size s mm (by omega) (lt_cell (cell_of hb3 0)) (cell_of hb3 0) hM3)
      rw [← hW3] at HK
      have HF3 := Lib.hid hF3
      clear hM3 hF3 hb3 hW3 hnil hu
      go_wp2_with (first
        | (go_at_call 85; refine HK.out.mono ?_; rintro e w3 ⟨rfl, rfl⟩)
        | (go_at_call 65; refine HSo.out.mono ?_; rintro e w4 ⟨v, rfl, h3, h4⟩))
      obtain ⟨A4, c4, rfl, h6, h7⟩ := Kd.R_reads (Kd.R_of_own (ok := fun _ => True) h3 (fun _ _ => trivial))
      exact hR.out _ _ ⟨_, _, rfl, h6, h7, (HFr.out.trans HF3.out (by simp)).trans (Fr.of_below [] h4) (by simp)⟩
    · obtain ⟨q1, q2, rfl, hq1, hq2⟩ := List.map_eq_append_iff.1 hleft
      obtain ⟨⟨k, z⟩, q3, rfl, hx, hq3⟩ := List.map_eq_cons_iff.1 hq2
      simp only [encV, Prod.mk.injEq] at hx
      obtain ⟨rfl, rfl⟩ := hx
      have hI2 : IterIs balE w' r b ((q1 ++ q3).map encV) := by rw [List.map_append, hq1, hq3]; exact hI'
      have hFw : Fr [] w w' := HFr.out.trans hF' (fun y hy => .inr (by simp at hy; subst hy; exact hrw))
      have hM' : MapIs keyE w' s mm := HMr.out.fr hF' (by simp; omega)
      obtain ⟨⟨K, V, F⟩, hwf⟩ := k
      obtain ⟨W3, hW3⟩ : ∃ W3, W3 = w'.alloc (.cells #[.int .i64 K, .int .i64 V, .int .i64 F] 113 (0, 0)) := ⟨_, rfl⟩
      have hF3 : Fr [] w' W3 := by rw [hW3]; exact (Fr.refl _ _).alloc _
      have hbk : W3.heap[w'.heap.size]? = some (.cells #[.int .i64 K, .int .i64 V, .int .i64 F] 113 (0, 0)) := by rw [hW3]; exact heap_alloc_new w' _
      have k1 : W3.cell? ⟨w'.heap.size, 1, none⟩ = some (.int .i64 V) := cell_of hbk 1
      have hM3 : MapIs keyE W3 s mm := hM'.fr hF3 (by simp)
      have hI3 : IterIs balE W3 r b ((q1 ++ q3).map encV) := hI2.fr hF3 (by simp) (by simp)
      have hFw3 : Fr [] w W3 := hFw.trans hF3 (by simp)
      have hgl : (q1 ++ q3).length < (q1 ++ (⟨(K, V, F), hwf⟩, z) :: q3).length := by simp
      have HX3 : Hid (∀ x, (x = V ∨ x ∈ mm.map (·.1)) ∨ x ∈ ((q1 ++ q3).map fun q => q.1.1.2.1) ↔ x ∈ (m.map fun q => q.1.1.2.1)) := by
        intro x
        rw [← HX.out x]
        simp only [List.map_append, List.map_cons, List.mem_append, List.mem_cons]
        constructor
        · rintro ((h | h) | h | h) <;> simp [h]
        · rintro (h | h | h | h) <;> simp [h]
      have hml : mm.length + 1 + (q1 ++ q3).length ≤ m.length := by simp at hlen ⊢; omega
      simp only [balE] at hnext hentry
      have HI3 := Lib.hid hI3
      have HFw3 := Lib.hid hFw3
      have HM3 := Lib.hid hM3
      clear hleft hq1 hq2 hq3 hI' hbk hI2 hFw hF3 hF' hM' hM3 hI3 hFw3 hlen hsz'
      go_upto_region 5 with (fail)
      rw [← hW3]
      clear hW3 hnext hentry
      go_wp2_with (at_mapUpdate; refine wp_store rfl _ _ _ 137 4 rfl keyI Tryz.underlying137 rfl HM3.out V rfl (.bool true) rfl ?_; intro w4 hM4 hF4 hs4)
      go_roundg (q1 ++ q3).length
      case measure => exact hgl
      case rel =>
        refine ⟨q1 ++ q3, aput mm V (.bool true), rfl, ?_, hM4, ?_, ?_, ?_⟩
        · exact HI3.out.fr hF4 (by simp; omega) (by simp; omega)
        · intro x
          rw [aput_mem, HX3.out x]
        · exact HFw3.out.trans hF4 (fun k hk => .inr (by simp at hk; omega))
        · have := aput_len mm V (Value.bool true); omega
end Go.Np.Tryz
set_option linter.unusedVariables false
set_option linter.unusedSimpArgs false
namespace Go.Np.Tryz
open Go.RowKit Go.Proofs Go.Proofs.YtgfiglcmhlbjjaaGreatW.PrintWords
def comV (st : List Int) (m : List (Bal × Int)) (V : Int) : Bool := (mostP st m 5 V).2 && decide ((mostP st m 5 V).1 ≠ -1)
def comP (st : List Int) (m : List (Bal × Int)) : Int × Bool :=
  match (viewsP m).find? (fun V => comV st m V) with
  | some V => ((mostP st m 5 V).1, true)
  | none => (0, false)
theorem viewsP_wf {m : List (Bal × Int)} {f : Int} (h : f ∈ viewsP m) : wf64 f := by
  rw [viewsP, uniq_mem] at h
  obtain ⟨q, hq, rfl⟩ := List.mem_map.1 h
  exact q.1.2.2.1
set_option maxHeartbeats 4000000 in
set_option maxRecDepth 100000 in
theorem tCom_calls {w0 w : World} {p : Nat} {st : List Int} {m : List (Bal × Int)} (h : Tl w0 w p st m) (hst : okS st) (hm : m.length < 1099511627776) :
    Calls Tryz.prog 64 #[.pointer (some ⟨p, 0, none⟩)] w fun e w' => e = .returned (.tuple #[.int .i64 (comP st m).1, .bool (comP st m).2]) ∧ Fr [] w w' := by
  obtain ⟨L, hL⟩ : ∃ L, L = viewsP m := ⟨_, rfl⟩
  have HA : Hid (Calls Tryz.prog 69 #[.pointer (some ⟨p, 0, none⟩)] w fun e w' => MadeI w w' e L) := by rw [hL]; exact tviews_calls h hm
  have hwf : Hid (∀ f ∈ L, wf64 f) := by intro f hf; rw [hL] at hf; exact viewsP_wf hf
  have HMo : Hid (∀ W V, Fr [] w W → wf64 V → Calls Tryz.prog 52 #[.pointer (some ⟨p, 0, none⟩), .int .i64 5, .int .i64 V] W fun e w' => e = .returned (.tuple #[.int .i64 (mostP st m 5 V).1, .bool (mostP st m 5 V).2]) ∧ Fr [] W w') := by
    intro W V hF hv
    exact tMost_calls (h.step hF) hst hm 5 V (by decide) hv
  have hmost : ∀ k, k < L.length → (∀ x ∈ L.take k, comV st m x = false) → comV st m (L.getD k 0) = true → comP st m = ((mostP st m 5 (L.getD k 0)).1, true) := by
    intro k hk h1 h2
    unfold comP
    rw [← hL, find_none_drop h1 hk h2]
  have hnone : (∀ x ∈ L, comV st m x = false) → comP st m = (0, false) := by
    intro h1
    unfold comP
    rw [← hL, List.find?_eq_none.2 (fun x hx => by simp [h1 x hx])]
  refine calls_k fun R hR => ?_
  have HM := Lib.hid hmost
  have HN := Lib.hid hnone
  clear h hmost hnone hL
  go_enter Tryz.func64, Tryz.ntmps64
  go_upto_region 2 with (go_at_call 69; refine HA.out.mono ?_; rintro e w1 ⟨B, d, rfl, h1, h2, h3⟩)
  have HC1 := Lib.hid h2
  have HF1 := Lib.hid h3
  have hmx : L.length ≤ 9223372036854775807 := h2.2.1
  clear h1 h2 h3
  go_loopw [11] (fun u wr => ∃ k : Nat, k ≤ L.length ∧ u = .int .i64 k ∧ Hid (∀ x ∈ L.take k, comV st m x = false) ∧ Hid (Fr [] w1 wr)) (fun u _ => L.length - (RowKit.intOf u).toNat)
  case atStart => exact ⟨0, Nat.zero_le _, rfl, by intro x hx; simp at hx, Fr.refl _ _⟩
  case round =>
    obtain ⟨k, hk, rfl, HT, HFr⟩ := hrel
    by_cases hlt : k < L.length
    · obtain ⟨ad, rfl, hcx⟩ := at_int_nat (Kd.C_below HC1.out HFr.out.below) k hlt
      have hFw : Fr [] w wr := HF1.out.trans HFr.out (by simp)
      obtain ⟨F, hF⟩ : ∃ F, F = L.getD k 0 := ⟨_, rfl⟩
      have hFm : F ∈ L := by rw [hF]; exact getD_mem hlt
      have HVk := Lib.hid (HMo.out wr F hFw (hwf.out _ hFm))
      have hsucc : ∀ x ∈ L.take (k + 1), x ∈ L.take k ∨ x = F := by intro x hx; rw [hF]; exact take_mem_succ hlt hx
      have hMk := HM.out k hlt HT.out
      rw [← hF] at hcx hMk
      have HS := Lib.hid hsucc
      have HMk := Lib.hid hMk
      clear hsucc hMk hF hFm
      obtain ⟨X, hX⟩ : ∃ X, X = (mostP st m 5 F).1 := ⟨_, rfl⟩
      obtain ⟨Y, hY⟩ : ∃ Y, Y = (mostP st m 5 F).2 := ⟨_, rfl⟩
      have hcv : comV st m F = (Y && decide (X ≠ -1)) := by rw [hX, hY]; rfl
      have HCV := Lib.hid hcv
      have HFw := Lib.hid hFw
      rw [← hX] at HMk
      rw [← hX, ← hY] at HVk
      clear hX hY hFw hcv
      have hgo : comV st m F = false → Hid (∀ x ∈ L.take (k + 1), comV st m x = false) := by
        intro h0 x hx
        rcases HS.out x hx with h | rfl
        · exact HT.out x h
        · exact h0
      cases Y with
      | false =>
        have HG := hgo (by rw [HCV.out]; rfl)
        clear hgo
        go_wp2_with (go_at_call 52; refine HVk.out.mono ?_; rintro e w2 ⟨rfl, hF2⟩)
        go_roundw
        case rel => exact ⟨k + 1, by omega, by go_num, HG, HFr.out.trans hF2 (by simp)⟩
        case measure => simp [RowKit.intOf]; omega
      | true =>
        by_cases hX1 : X = -1
        · subst hX1
          have HG := hgo (by rw [HCV.out]; rfl)
          clear hgo
          go_wp2_with (go_at_call 52; refine HVk.out.mono ?_; rintro e w2 ⟨rfl, hF2⟩)
          go_roundw
          case rel => exact ⟨k + 1, by omega, by go_num, HG, HFr.out.trans hF2 (by simp)⟩
          case measure => simp [RowKit.intOf]; omega
        · have hcom : comP st m = (X, true) := HMk.out (by rw [HCV.out]; simp [hX1])
          rw [hcom] at hR
          have hxe : (X == -1) = false := by simpa using hX1
          clear hgo hcom
          go_wp2_with (go_at_call 52; refine HVk.out.mono ?_; rintro e w2 ⟨rfl, hF2⟩)
          exact hR.out _ _ ⟨rfl, HFw.out.trans hF2 (by simp)⟩
    · obtain rfl : k = L.length := by omega
      rw [List.take_length] at HT
      rw [HN.out HT.out] at hR
      go_wp2
      exact hR.out _ _ ⟨rfl, HF1.out.trans HFr.out (by simp)⟩
end Go.Np.Tryz
set_option linter.unusedVariables false
set_option linter.unusedSimpArgs false
namespace Go.Np.Tryz
open Go.RowKit Go.Proofs Go.Shelf
attribute [local go_sem] Oper.semAt_some
def bwF (zs : List Int) (k : Nat) : Int × Int := (((zs.length - 1 - k : Nat) : Int), zs[zs.length - 1 - k]?.getD 0)
set_option maxRecDepth 100000 in
set_option maxHeartbeats 2000000 in
theorem bw_1_in (F : Fence) (n : Nat) (h7 : F.fn 84) (hro : F.round = none) (hn : 1 ≤ n) (l Bs n₀ b off cap : Nat) (zs : List Int) (hreach : zs.length * 8 ≤ 140737488351232) (hb : b < n₀) (J Jx : List (Int × Int) → World → Prop)
    (hY : ∀ pre x W, J pre W → pre.length < zs.length → YieldAt F (n - 1) Tryz.prog l #[.int .i64 x.1, .int .i64 x.2] W fun e W' =>
      (e = .returned (.bool true) ∧ J (pre ++ [x]) W' ∧ Below n₀ W W') ∨ (e = .returned (.bool false) ∧ Jx (pre ++ [x]) W'))
    (W : World) (hn₀ : Bs < n₀) (hBs : W.cell? ⟨Bs, 0, none⟩ = some (.slice (some ⟨b, off, none⟩) zs.length cap)) (hc : ∀ j, j < zs.length → W.cell? ⟨b, off + j, none⟩ = some (.int .i64 (zs[j]?.getD 0))) (h0 : J [] W) :
    CallsIn F n Tryz.prog 84 #[.func (.yield l) #[] #[], .pointer (some ⟨Bs, 0, none⟩)] W fun e W' => (∃ v, e = .returned v) ∧
      ((∃ ys, ys = vs_upto (bwF zs) zs.length ∧ J ys W') ∨ (∃ pre, (∃ k, k ≤ zs.length ∧ pre = vs_upto (bwF zs) k) ∧ Jx pre W')) := by
  refine callsIn_of_wp Tryz.func84 rfl h7 ?_ hro
  simp only [Tryz.ntmps84, List.size_toArray, List.length_cons, List.length_nil, Nat.reduceAdd, Nat.reduceSub, Array.replicate_succ, Array.replicate_zero, List.push_toArray, List.append_toArray, List.nil_append, List.cons_append]
  gi_wp2
  gi_loopw [3] (fun i wr => ∃ (r : Nat) (z : Int), r ≤ zs.length ∧ i = .int .i64 z ∧ z = (r : Int) - 1 ∧ Hid (J (vs_upto (bwF zs) (zs.length - r)) wr) ∧ Hid (Below n₀ W wr))
    (fun i _ => (RowKit.intOf i + 1).toNat)
  case atStart =>
    refine ⟨zs.length, _, Nat.le_refl _, rfl, by first | rfl | omega | (unfold wrap64; omega), ?_, Below.refl _ _⟩
    show J _ _
    rw [Nat.sub_self]; exact h0
  case round =>
    obtain ⟨r, z, hr, rfl, hz, hJs, hnx⟩ := hrel
    cases r with
    | zero =>
      have hz : z < 0 := by omega
      gi_wp2
      go_end0
      exact ⟨⟨_, rfl⟩, .inl ⟨_, rfl, by simpa using hJs.out⟩⟩
    | succ j =>
      have hz : z = (j : Int) := by omega
      subst hz
      have hj : j < zs.length := by omega
      have hcx := (hnx.out.cell (p := ⟨b, off + j, none⟩) hb).trans (hc j hj)
      have hBx := (hnx.out.cell (p := ⟨Bs, 0, none⟩) hn₀).trans hBs
      have hk : zs.length - (j + 1) < zs.length := by omega
      have hbw : bwF zs (zs.length - (j + 1)) = ((j : Int), zs[j]?.getD 0) := by
        unfold bwF
        rw [show zs.length - 1 - (zs.length - (j + 1)) = j by omega]
      obtain ⟨fn, tmps, assign, body, hy, hR⟩ := hY _ ((j : Int), zs[j]?.getD 0) wr hJs.out (by rw [vs_upto_length]; exact hk)
      have hsn : vs_upto (bwF zs) (zs.length - (j + 1)) ++ [((j : Int), zs[j]?.getD 0)] = vs_upto (bwF zs) (zs.length - j) := by
        rw [show zs.length - j = (zs.length - (j + 1)) + 1 by omega, vs_upto_succ, hbw]
      rw [hsn] at hR
      have HR := Lib.hid hR
      obtain ⟨y, hye⟩ : ∃ y, y = zs[j]?.getD 0 := ⟨_, rfl⟩
      rw [← hye] at hcx
      dsimp only at hy
      rw [← hye] at hy
      have hjm : (j : Int) ≤ 17592186043904 := by omega
      clear hR hsn hbw hye hY hc hBs hr hz hk
      gi_wp2
      refine HR.out.mono ?_
      rintro e W3 (⟨rfl, hJ3, hk3⟩ | ⟨rfl, hJx3⟩)
      · gi_wp2
        go_roundw
        case rel => exact ⟨j, _, by omega, rfl, by first | rfl | omega | (unfold wrap64; omega), hJ3, hnx.out.trans hk3⟩
        case measure => first | (simp [RowKit.intOf]; done) | (simp [RowKit.intOf]; omega) | (unfold wrap64; simp [RowKit.intOf]; omega)
      · gi_wp2
        refine bodyPost_ret (results_none rfl _ _ _) rfl ?_
        exact ⟨⟨_, rfl⟩, .inr ⟨_, ⟨zs.length - j, by omega, rfl⟩, hJx3⟩⟩
set_option maxRecDepth 100000 in
set_option maxHeartbeats 1000000 in
theorem bw_1_nil_in (F : Fence) (n : Nat) (h7 : F.fn 84) (hro : F.round = none) (l Bs : Nat) (J : List (Int × Int) → World → Prop) (W : World) (a : Option Addr) (cp : Nat) (hBs : W.cell? ⟨Bs, 0, none⟩ = some (.slice a 0 cp)) (h0 : J [] W) :
    CallsIn F n Tryz.prog 84 #[.func (.yield l) #[] #[], .pointer (some ⟨Bs, 0, none⟩)] W fun e W' => (∃ v, e = .returned v) ∧ J [] W' := by
  refine callsIn_of_wp Tryz.func84 rfl h7 ?_ hro
  simp only [Tryz.ntmps84, List.size_toArray, List.length_cons, List.length_nil, Nat.reduceAdd, Nat.reduceSub, Array.replicate_succ, Array.replicate_zero, List.push_toArray, List.append_toArray, List.nil_append, List.cons_append]
  gi_wp2
  gi_loopw [3] (fun i wr => (∃ z : Int, i = .int .i64 z ∧ z < 0) ∧ J [] wr) (fun _ _ => 0)
  case atStart => exact ⟨⟨_, rfl, by omega⟩, h0⟩
  case round =>
    obtain ⟨⟨z, rfl, hz⟩, hJs⟩ := hrel
    gi_wp2
    go_end0
    exact ⟨⟨_, rfl⟩, hJs⟩
set_option maxHeartbeats 1000000 in
theorem bw_in (F : Fence) (n : Nat) (h5 : F.fn 68) (hro : F.round = none) (a : Option Addr) (len cap : Nat) (w : World) :
    CallsIn F n Tryz.prog 68 #[.slice a len cap] w fun e w' => e = .returned (.func (.func 84) #[] #[.pointer (some ⟨w.heap.size, 0, none⟩)]) ∧ w' = w.alloc (.cells #[.slice a len cap] 22) := by
  refine callsIn_of_wp Tryz.func68 rfl h5 ?_ hro
  simp only [Tryz.ntmps68, List.size_toArray, List.length_cons, List.length_nil, Nat.reduceAdd, Nat.reduceSub, Array.replicate_succ, Array.replicate_zero, List.push_toArray, List.append_toArray, List.nil_append, List.cons_append]
  gi_wp2
  go_ret
  exact ⟨rfl, rfl⟩
theorem bw_stops (F : Fence) (n : Nat) (h7 : F.fn 84) (hro : F.round = none) (hn : 1 ≤ n) (Bs n₀ : Nat) (sv : Value) (zs : List Int) (hreach : zs.length * 8 ≤ 140737488351232) (w : World) (hBs : Bs < n₀) (hn₀ : n₀ ≤ w.heap.size)
    (hc : w.cell? ⟨Bs, 0, none⟩ = some sv) (hI : VsInts n₀ w sv zs) :
    SeqStopsK F n Tryz.prog 84 #[.pointer (some ⟨Bs, 0, none⟩)] (fun x : Int × Int => #[Value.int .i64 x.1, .int .i64 x.2]) (Below n₀) (fun ys => ys = vs_upto (bwF zs) zs.length) (fun pre => ∃ k, k ≤ zs.length ∧ pre = vs_upto (bwF zs) k) zs.length w := fun l J Jx W hW _ _ hY h0 => by
  have hc' := (hW.cell (p := ⟨Bs, 0, none⟩) (Nat.lt_of_lt_of_le hBs hn₀)).trans hc
  rcases hI.below (hW.mono hn₀) with ⟨a, cp, rfl, rfl⟩ | ⟨b, off, cap, rfl, hb, hcs⟩
  · exact (bw_1_nil_in F n h7 hro l Bs J W a cp hc' h0).mono fun e W' ⟨he, hj⟩ => ⟨he, .inl ⟨_, rfl, hj⟩⟩
  · exact bw_1_in F n h7 hro hn l Bs n₀ b off cap zs hreach hb J Jx hY W hBs hc' hcs h0
end Go.Np.Tryz
set_option linter.unusedVariables false
set_option linter.unusedSimpArgs false
namespace Go.Np
section
variable {P : Program} {ops : Array Oper} {Q : Exit → Act → World → Prop} {md : Region.Mode} {S : World → Prop} {l n : Nat}
theorem rowsIn_wide {row : String} {args : Array Value} {w : World} {R : Value → World → Prop} (h : Rows P row args w R) : RowsIn Fence.wide n P row args w R := fun c cs _ => by
  obtain ⟨v, w', r, s⟩ := h c cs
  exact ⟨v, w', r, stepsIn_wide.2 s⟩
theorem wpOp_in {i : Nat} {K : Act → World → Prop} {a : Act} {w : World} (hQ : ¬ LetsOut Q) (hnd : ∀ o : Oper, ops[i]? = some o → ∀ c : Go.Call, o.op ≠ .defer c) (h : wpOp P ops Q i K a w) : wpOpIn (Fence.wide.inRound l) n P ops Q i K a w := by
  unfold wpOp at h
  unfold wpOpIn
  cases hi : ops[i]? with
  | none => simpa [hi] using h
  | some o =>
    simp only [hi] at h ⊢
    split
    · rename_i hw
      simp only [hw, if_true] at h
      rcases h with h | ⟨_, h⟩
      · refine ⟨fun _ _ => trivial, ?_⟩
        rw [Fence.inRound_round, Oper.semAt_some l _ _ (hnd o hi)]
        unfold Oper.wp at h
        generalize (execOp a.eval o).run P w = r at h
        cases r with
        | ok x w' =>
          cases x with
          | value v => exact h
          | skip => exact h
          | defer d => exact h
          | enter f args => exact ⟨fun hd => by simp [Fence.wide] at hd, CallsIn.inRound l (callsIn_wide.2 h)⟩
          | row r args => exact ⟨fun hd => by simp [Fence.wide] at hd, rowsIn_wide h⟩
          | _ => exact h.elim
        | halt x w' => cases x <;> exact h
      · exact absurd h hQ
    · rename_i hw
      simp only [hw] at h
      exact ⟨fun _ _ => trivial, h⟩
theorem wpAny_in (hQ : ¬ LetsOut Q) (hnd : ∀ (i : Nat) (o : Oper), ops[i]? = some o → ∀ c : Go.Call, o.op ≠ .defer c) : ∀ (fuel : Nat) (listed : Array Bool) (a : Act) (w : World), wpAny P md ops Q fuel listed a w → wpAnyIn (Fence.wide.inRound l) n P md ops Q fuel listed a w
  | 0, _, _, _, h => h
  | fuel + 1, _, _, _, h => ⟨h.1, fun i hi => wpOpIn_mono (fun a w h' => wpAny_in hQ hnd fuel _ a w h') (wpOp_in hQ (hnd i) (h.2 i hi))⟩
def noDefer (ops : Array Oper) : Bool := ops.toList.all fun o => match o.op with | .defer _ => false | _ => true
theorem noDefer_spec (h : noDefer ops = true) : ∀ (i : Nat) (o : Oper), ops[i]? = some o → ∀ c : Go.Call, o.op ≠ .defer c := fun i o hi c hc => by
  have h1 := List.all_eq_true.1 h o (Array.mem_toList_iff.2 (Array.mem_of_getElem? hi))
  rw [hc] at h1
  cases h1
theorem round_held {id : Nat} {a : Act} {w : World} (hm : P.follows .mixedOrders = true) (hQ : ¬ LetsOut Q) (hnd : noDefer ops = true) (hS : S w.drew)
    (h : S w.drew → wpAnyH P .any ops Q S ops.size (Array.replicate ops.size false) a w.drew) : (Code.region id ops true).wpIn (Fence.wide.inRound l) n P Q a w :=
  wpIn_region_any hm (wpAny_in hQ (noDefer_spec hnd) _ _ _ _ (wpAny_of_held _ _ _ _ (h hS)))
theorem at_of_drop {i : Nat} {o : Oper} {rest : List Oper} (h : ops.toList.drop i = o :: rest) : ops[i]? = some o := by
  rw [← Array.getElem?_toList]
  have := List.getElem?_drop (xs := ops.toList) (i := i) (j := 0)
  rw [h] at this
  simpa using this.symm
theorem held_take {i : Nat} {oi : Oper} {rest : List Oper} {v : Value} {fuel : Nat} {listed : Array Bool} {a : Act} {w : World} (hi : ops.toList.drop i = oi :: rest)
    (hs : Region.noSelect ops = true) (hf : Region.free md ops listed i = true) (hr : (Region.ready md ops listed).contains i = true)
    (hQ : ∀ c a w, Q (.panic c) (a.put oi.dst v) w → Q (.panic c) a w) (hy : YieldsIf P ops S oi v a) (hS : S w)
    (h : wpAnyH P md ops Q S fuel (listed.setIfInBounds i true) (a.put oi.dst v) w) : wpAnyH P md ops Q S (fuel + 1) listed a w :=
  wpAnyH_take (at_of_drop hi) hs hf hr hQ hy hS h
theorem held_one {i : Nat} {oi : Oper} {rest : List Oper} {fuel : Nat} {listed : Array Bool} {a : Act} {w : World} (hi : ops.toList.drop i = oi :: rest) (hr : Region.ready md ops listed = [i])
    (hw : Region.wanted oi (yielded ops a.tmps) = true)
    (h : ∀ K' : Act → World → Prop, Shut (∀ a w, S w → (S w → wpAnyH P md ops Q S fuel (listed.setIfInBounds i true) a w) → K' a w) → Oper.wp P oi a w K' Q) : wpAnyH P md ops Q S (fuel + 1) listed a w := by
  refine wpAnyH_all hr (by simp) (fun j hj => ?_)
  obtain rfl : j = i := by simpa using hj
  unfold wpOp
  simp only [at_of_drop hi, hw, if_true]
  exact .inl (h _ (fun a w hS hW => ⟨hS, hW hS⟩))
end
end Go.Np
set_option linter.unusedVariables false
set_option linter.unusedSimpArgs false
namespace Go.Np.Tryz
open Go.RowKit Go.Proofs Go.Shelf
attribute [local go_sem] Oper.semAt_some
def ahV (st : List Int) (m : List (Bal × Int)) (view V : Int) : Bool := decide (view < V) && someB st (whoP (hAhead V) m)
def ahP (st : List Int) (m : List (Bal × Int)) (view : Int) : Int := ((viewsP m).reverse.find? (fun V => ahV st m view V)).getD view
theorem fr_keepsFrom {B : Nat} {W W' : World} (h : Fr [] W W') : KeepsFrom B W W' := ⟨h.size, fun k o hB hk ho => (h.block k (Array.getElem?_eq_some_iff.1 hk).1 (by simp)).trans hk⟩
theorem bw_snd (L : List Int) (k : Nat) (hk : k ≤ L.length) : (vs_upto (bwF L) k).map (·.2) = L.reverse.take k := by
  apply List.ext_getElem
  · simp [vs_upto, hk]
  · intro i h1 h2
    have hi : i < k := by simpa [vs_upto] using h1
    have hi2 : L.length - 1 - i < L.length := by omega
    simp [vs_upto, bwF, hi2]
theorem ahP_none {st : List Int} {m : List (Bal × Int)} {view : Int} {L : List Int} (hL : L = viewsP m) (h : ∀ x ∈ vs_upto (bwF L) L.length, ahV st m view x.2 = false) : ahP st m view = view := by
  unfold ahP
  rw [← hL, List.find?_eq_none.2 (fun y hy => ?_)]
  · rfl
  · have h1 := bw_snd L L.length (Nat.le_refl _)
    rw [← L.length_reverse, List.take_length] at h1
    rw [L.length_reverse] at h1
    rw [← h1] at hy
    obtain ⟨x, hx, rfl⟩ := List.mem_map.1 hy
    simp [h x hx]
theorem ahP_some {st : List Int} {m : List (Bal × Int)} {view : Int} {L : List Int} (hL : L = viewsP m) {k : Nat} (hk : k ≤ L.length) {pre' : List (Int × Int)} {x : Int × Int} (he : vs_upto (bwF L) k = pre' ++ [x]) (h : ∀ y ∈ pre', ahV st m view y.2 = false) (hx : ahV st m view x.2 = true) : ahP st m view = x.2 := by
  unfold ahP
  have h1 := bw_snd L k hk
  rw [he, List.map_append] at h1
  have h2 : L.reverse = (pre'.map (·.2) ++ [x.2]) ++ L.reverse.drop k := by
    conv => lhs; rw [← List.take_append_drop k L.reverse, ← h1]
    rfl
  rw [← hL, h2, List.append_assoc, List.find?_append, List.find?_eq_none.2 (fun y hy => ?_)]
  · simp [List.find?_cons, hx]
  · obtain ⟨z, hz, rfl⟩ := List.mem_map.1 hy
    simp [h z hz]
theorem uniq_len (l : List Int) : (uniq l).length ≤ l.length := by have := (compact_props _ _ rfl (sorted_ms l)).2.2.1; rw [List.length_mergeSort] at this; exact this
set_option maxRecDepth 100000 in
set_option maxHeartbeats 4000000 in
theorem tAhead_calls {w0 w : World} {p : Nat} {st : List Int} {m : List (Bal × Int)} (h : Tl w0 w p st m) (hst : okS st) (hm : m.length < 1099511627776) (view : Int) :
    Calls Tryz.prog 51 #[.pointer (some ⟨p, 0, none⟩), .int .i64 view] w fun e w' => e = .returned (.int .i64 (ahP st m view)) ∧ Fr [] w w' := by
  obtain ⟨L, hL⟩ : ∃ L, L = viewsP m := ⟨_, rfl⟩
  refine (callsIn_wide (n := 9)).1 ?_
  obtain ⟨W1, hW1⟩ : ∃ W1, W1 = w.alloc (.cells #[.pointer (some ⟨p, 0, none⟩)] 70) := ⟨_, rfl⟩
  obtain ⟨W2, hW2⟩ : ∃ W2, W2 = W1.alloc (.cells #[.int .i64 view] 3) := ⟨_, rfl⟩
  obtain ⟨W3, hW3⟩ : ∃ W3, W3 = W2.alloc (.cells #[.int .i64 0] 3) := ⟨_, rfl⟩
  have f1 : Fr [] w W1 := by rw [hW1]; exact (Fr.refl _ _).alloc _
  have f2 : Fr [] W1 W2 := by rw [hW2]; exact (Fr.refl _ _).alloc _
  have f3 : Fr [] W2 W3 := by rw [hW3]; exact (Fr.refl _ _).alloc _
  have s1 : W1.heap.size = w.heap.size + 1 := by rw [hW1]; simp
  have s2 : W2.heap.size = w.heap.size + 1 + 1 := by rw [hW2]; simp [s1]
  have s3 : W3.heap.size = w.heap.size + 1 + 1 + 1 := by rw [hW3]; simp [s2]
  have b1 : W1.heap[w.heap.size]? = some (.cells #[.pointer (some ⟨p, 0, none⟩)] 70 (0, 0)) := by rw [hW1]; exact heap_alloc_new _ _
  have b2 : W2.heap[w.heap.size + 1]? = some (.cells #[.int .i64 view] 3 (0, 0)) := by rw [hW2, ← s1]; exact heap_alloc_new _ _
  have b3 : W3.heap[w.heap.size + 1 + 1]? = some (.cells #[.int .i64 0] 3 (0, 0)) := by rw [hW3, ← s2]; exact heap_alloc_new _ _
  have g1 := (f3.block _ (by omega) (by simp)).trans ((f2.block _ (by omega) (by simp)).trans b1)
  have g2 := (f3.block _ (by omega) (by simp)).trans b2
  have fA : Fr [] w W3 := (f1.trans f2 (by simp)).trans f3 (by simp)
  have HA : Hid (Calls Tryz.prog 69 #[.pointer (some ⟨p, 0, none⟩)] W3 fun e w' => MadeI W3 w' e L) := by rw [hL]; exact tviews_calls (h.step fA) hm
  have HW : Hid (W3 = ((w.alloc (.cells #[.pointer (some ⟨p, 0, none⟩)] 70)).alloc (.cells #[.int .i64 view] 3)).alloc (.cells #[.int .i64 0] 3)) := by rw [hW3, hW2, hW1]; exact rfl
  have HL := Lib.hid hL
  clear hL
  have HBw := fun a len cap W => Lib.hid (bw_in Fence.wide 8 trivial rfl a len cap W)
  have c1 : W3.cell? ⟨w.heap.size, 0, none⟩ = some (.pointer (some ⟨p, 0, none⟩)) := cell_of g1 0
  clear f1 f2 f3 hW1 hW2 hW3 s1 s2 b1 b2
  have hf48 : Fence.wide.fn 69 := trivial
  have hf50 : Fence.wide.fn 68 := trivial
  refine callsIn_of_wp_marks Tryz.func51 rfl trivial ?_ rfl
  simp only [Tryz.ntmps51, List.size_toArray, List.length_cons, List.length_nil, Nat.reduceAdd, Nat.reduceSub, Array.replicate_succ, Array.replicate_zero, List.push_toArray, List.append_toArray, List.nil_append, List.cons_append]
  gi_wp2_with (first
    | (gi_at_call 69; rw [← HW.out]; refine (callsIn_wide.2 HA.out).mono ?_; rintro e w4 ⟨B, d, rfl, h1, h2, h3⟩)
    | (gi_at_call 68; refine (HBw _ _ _ _).out.mono ?_; rintro e w' ⟨rfl, rfl⟩))
  obtain ⟨W5, hW5⟩ : ∃ W5, W5 = w4.alloc (.cells #[.slice B L.length d] 22) := ⟨_, rfl⟩
  obtain ⟨P2, hP2⟩ : ∃ P2, P2 = w.heap.size := ⟨_, rfl⟩
  have hF5 : Fr [] W3 W5 := by rw [hW5]; exact h3.alloc _
  have hF05 : Fr [] w W5 := fA.trans hF5 (by simp)
  have hs5 : W5.heap.size = w4.heap.size + 1 := by rw [hW5]; simp
  have hb5 : W5.heap[w4.heap.size]? = some (.cells #[.slice B L.length d] 22 (0, 0)) := by rw [hW5]; exact heap_alloc_new _ _
  have hL5 : (Go.Proofs.YtgfiglcmhlbjjaaGreatW.PrintWords.Kd.int .i64).C W5 B L.length L := by rw [hW5]; exact Go.Proofs.YtgfiglcmhlbjjaaGreatW.PrintWords.Kd.C_alloc h2 _
  have hlt3 : w.heap.size + 1 + 1 < W3.heap.size := (Array.getElem?_eq_some_iff.1 b3).1
  have hm2 : W5.cell? ⟨w.heap.size, 0, none⟩ = some (.pointer (some ⟨p, 0, none⟩)) := cellF hF5 (cell_of g1 0)
  have hm3 : W5.cell? ⟨w.heap.size + 1, 0, none⟩ = some (.int .i64 view) := cellF hF5 (cell_of g2 0)
  have hm4 : W5.heap[w.heap.size + 1 + 1]? = some (.cells #[.int .i64 0] 3 (0, 0)) := (hF5.block _ hlt3 (by simp)).trans b3
  have hsW : W3.heap.size ≤ W5.heap.size := hF5.size
  rw [← hW5]
  have hLlen : L.length * 8 ≤ 140737488351232 := by
    rw [HL.out, viewsP]
    have := uniq_len (m.map fun q => q.1.1.2.1)
    simp at this
    omega
  have hI5 : VsInts W5.heap.size W5 (.slice B L.length d) L := by
    rcases vs_of (c := d) hL5 with ⟨hl0, _⟩ | ⟨b, o, hB, hbl, hcs⟩
    · subst hl0; exact .inl ⟨B, d, rfl, rfl⟩
    · subst hB; exact .inr ⟨b, o, d, rfl, hbl, hcs⟩
  have hT5 : Tl w0 W5 p st m := h.step hF05
  have hwv : ∀ V ∈ L, wf64 V := fun V hV => viewsP_wf (by rw [← HL.out]; exact hV)
  refine wpIn_rangeFunc_ownH rfl (by omega) (gf := 84) (lb := #[.pointer (some ⟨w4.heap.size, 0, none⟩)]) rfl trivial (enters_of Tryz.func84 (by kernel_rfl) rfl)
    (bw_stops Fence.wide 8 trivial rfl (by omega) w4.heap.size W5.heap.size (.slice B L.length d) L hLlen W5 (by omega) (Nat.le_refl _) (cell_of hb5 0) hI5) belowK_t (belowK_b (Nat.le_refl _)) (Below.refl _ _) (fun _ => rfl)
    (fun pre W => (∀ x ∈ pre, ahV st m view x.2 = false) ∧ Fr [] W5 W)
    (fun c pre W => c = .ret ∧ ∃ pre' x, pre = pre' ++ [x] ∧ (∀ y ∈ pre', ahV st m view y.2 = false) ∧ ahV st m view x.2 = true ∧ W.heap[w.heap.size + 1 + 1]? = some (.cells #[.int .i64 x.2] 3 (0, 0)) ∧ Fr [w.heap.size + 1 + 1] W5 W)
    (fun s A B row hs hg hr => ⟨hs.1, hs.2.trans (Fr.grown row.toList hg (fun k hk => .inl (by simp [hk]))) (fun k hk => .inr (hr k (by simpa using hk)).1)⟩)
    (fun c s A B row hs hg hr => by
      obtain ⟨h1, pre', x, h2, h3, h4, h5, h6⟩ := hs
      refine ⟨h1, pre', x, h2, h3, h4, ?_, h6.trans (Fr.grown row.toList hg (fun k hk => .inl (by simp [hk]))) (fun k hk => .inr (hr k (by simpa using hk)).1)⟩
      refine (hg.block _ (Array.getElem?_eq_some_iff.1 h5).1 (fun e => ?_)).trans h5
      have := (hr _ e.symm).1
      omega)
    ⟨by simp, Fr.refl _ _⟩
    (fun x a' W => ∃ Bx, W5.heap.size ≤ Bx ∧ Boxed W Bx 3 (.int .i64 x.2) ∧ a' = { tmps := #[.pointer (some ⟨p, 0, none⟩), .int .i64 view, .pointer (some ⟨w.heap.size, 0, none⟩), .pointer (some ⟨w.heap.size + 1, 0, none⟩), .pointer (some ⟨w.heap.size + 1 + 1, 0, none⟩), undef, .pointer (some ⟨Bx, 0, none⟩), .pointer (some ⟨p, 0, none⟩), .slice B L.length d, .func (.func 84) #[] #[.pointer (some ⟨w4.heap.size, 0, none⟩)], .int .i64 x.1, .int .i64 x.2, undef, undef, undef, undef, undef, undef, undef, undef, undef, undef, undef, undef, undef, undef, undef], defers := [] })
    (fun x a' _ X Y row hs hg hr => by obtain ⟨Bx, h1, h2, h3⟩ := hs; exact ⟨Bx, h1, boxed_own Bx 3 (fun (_ : Unit) => Value.int .i64 x.2) () X Y row h2 hg (fun r e => (hr r e).2), h3⟩)
    ?assign ?body ?done ?stop
  case assign =>
    rintro l pre x W K ⟨hp, hF⟩ hK
    gi_wp2
    exact hK _ _ ((KeepsOthers.alloc _ _).from _) ((Below.refl _ W).alloc hF.size _) ⟨hp, hF.alloc _⟩ ⟨W.heap.size, hF.size, Boxed.new W 3 _, rfl⟩
  case body =>
    rintro l pre x a' W hl ⟨r, hr⟩ ⟨hp, hF⟩ ⟨Bx, hBx, bX, rfl⟩ hlt
    have k2 : W.cell? ⟨w.heap.size, 0, none⟩ = some (.pointer (some ⟨p, 0, none⟩)) := cellF hF hm2
    have k3 : W.cell? ⟨w.heap.size + 1, 0, none⟩ = some (.int .i64 view) := cellF hF hm3
    have kx := bX.cell
    obtain ⟨bm, Am, cm, hTW⟩ := hT5.step hF
    have kp : W.cell? ⟨p, 0, none⟩ = some (.slice Am st.length cm) := cell_of hTW.obj 0
    have hf52 : Fence.wide.fn 70 := trivial
    have hf51 : Fence.wide.fn 67 := trivial
    have hmx : Tryz.prog.follows .mixedOrders = true := by kernel_rfl
    have HT5 := Lib.hid hT5
    have HF := Lib.hid hF
    by_cases hv : view < x.2
    · obtain ⟨U, hU⟩ : ∃ U, U = whoP (hAhead x.2) m := ⟨_, rfl⟩
      have C52 : Hid (∀ W', Fr [] W W' → Calls Tryz.prog 70 #[.pointer (some ⟨p, 0, none⟩), .func (.func 71) #[] #[.pointer (some ⟨Bx, 0, none⟩)]] W' fun e w'' => MadeI W' w'' e U) := by
        intro W' hF'
        rw [hU]
        exact whoAhead ((HT5.out.step HF.out).step hF') hm (fun w' q y hFw => cAhead (cellF hFw (cellF hF' kx)) q y)
      have C51 : Hid (∀ W' A' c', Fr [] W W' → (Go.Proofs.YtgfiglcmhlbjjaaGreatW.PrintWords.Kd.int .i64).C W' A' U.length U → U.length ≤ c' → Calls Tryz.prog 67 #[.slice Am st.length cm, .slice A' U.length c'] W' fun e w'' => e = .returned (.bool (someB st U)) ∧ Fr [] W' w'') := by
        intro W' A' c' hF' h1 h2
        exact ssome_calls hst (hTW.step hF').row hTW.cap h1 h2
      have hah : ahV st m view x.2 = someB st U := by unfold ahV; rw [← hU]; simp [hv]
      obtain ⟨bs, hbs⟩ : ∃ bs, bs = someB st U := ⟨_, rfl⟩
      rw [← hbs] at C51 hah
      have HAH := Lib.hid hah
      have HHP := Lib.hid hp
      clear hU hbs hah hp hT5 hwv hI5 hL5 hLlen hTW hF hr hlt hl hb5 hs5 hF05 hF5 h
      gi_wp2
      refine wpIn_mono (Q := fun e a w' => e = .normal ∧ ∃ v12 v13 v14 v15 v16 v17 v18 v19 v20 v21 v22 v23, Fr [] W w' ∧ a = { tmps := #[.pointer (some ⟨p, 0, none⟩), .int .i64 view, .pointer (some ⟨w.heap.size, 0, none⟩), .pointer (some ⟨w.heap.size + 1, 0, none⟩), .pointer (some ⟨w.heap.size + 1 + 1, 0, none⟩), undef, .pointer (some ⟨Bx, 0, none⟩), .pointer (some ⟨p, 0, none⟩), .slice B L.length d, .func (.func 84) #[] #[.pointer (some ⟨w4.heap.size, 0, none⟩)], .int .i64 x.1, .int .i64 x.2, v12, v13, v14, v15, v16, v17, v18, v19, v20, v21, v22, v23, .bool bs, undef, undef], defers := [] }) ?_ ?_
      · refine round_held (S := fun W' => Fr [] W W' ∧ W'.cell? ⟨w.heap.size, 0, none⟩ = some (.pointer (some ⟨p, 0, none⟩)) ∧ W'.cell? ⟨w.heap.size + 1, 0, none⟩ = some (.int .i64 view) ∧ W'.cell? ⟨Bx, 0, none⟩ = some (.int .i64 x.2) ∧ W'.cell? ⟨p, 0, none⟩ = some (.slice Am st.length cm)) hmx (by rintro ⟨a, w, h, _⟩; cases h) (by kernel_rfl) ⟨(Fr.refl _ _).drew, k2, k3, kx, kp⟩ (fun hHeld => ?_)
        refine held_take (i := 0) (v := ?_) rfl (by kernel_rfl) (by kernel_rfl) (by kernel_rfl) (fun _ _ _ h => nomatch h.1) (Or.inl ⟨by rfl, ?_⟩) (by assumption) ?_
        rotate_left
        · intro w hSw; obtain ⟨s1, s2, s3, s4, s5⟩ := hSw; (try go_simp); try with_reducible rfl
        try simp only [Act.put, List.setIfInBounds_toArray, List.set_cons_zero, List.set_cons_succ]
        refine held_take (i := 1) (v := ?_) rfl (by kernel_rfl) (by kernel_rfl) (by kernel_rfl) (fun _ _ _ h => nomatch h.1) (Or.inl ⟨by rfl, ?_⟩) (by assumption) ?_
        rotate_left
        · intro w hSw; obtain ⟨s1, s2, s3, s4, s5⟩ := hSw; (try go_simp); try with_reducible rfl
        try simp only [Act.put, List.setIfInBounds_toArray, List.set_cons_zero, List.set_cons_succ]
        refine held_take (i := 2) (v := ?_) rfl (by kernel_rfl) (by kernel_rfl) (by kernel_rfl) (fun _ _ _ h => nomatch h.1) (Or.inl ⟨by rfl, ?_⟩) (by assumption) ?_
        rotate_left
        · intro w hSw; obtain ⟨s1, s2, s3, s4, s5⟩ := hSw; (try go_simp); try with_reducible rfl
        try simp only [Act.put, List.setIfInBounds_toArray, List.set_cons_zero, List.set_cons_succ]
        refine held_take (i := 3) (v := ?_) rfl (by kernel_rfl) (by kernel_rfl) (by kernel_rfl) (fun _ _ _ h => nomatch h.1) (Or.inl ⟨by rfl, ?_⟩) (by assumption) ?_
        rotate_left
        · intro w hSw; obtain ⟨s1, s2, s3, s4, s5⟩ := hSw; (try go_simp); try with_reducible rfl
        try simp only [Act.put, List.setIfInBounds_toArray, List.set_cons_zero, List.set_cons_succ]
        refine held_take (i := 4) (v := ?_) rfl (by kernel_rfl) (by kernel_rfl) (by kernel_rfl) (fun _ _ _ h => nomatch h.1) (Or.inl ⟨by rfl, ?_⟩) (by assumption) ?_
        rotate_left
        · intro w hSw; obtain ⟨s1, s2, s3, s4, s5⟩ := hSw; (try go_simp); try with_reducible rfl
        try simp only [Act.put, List.setIfInBounds_toArray, List.set_cons_zero, List.set_cons_succ]
        refine held_take (i := 5) (v := ?_) rfl (by kernel_rfl) (by kernel_rfl) (by kernel_rfl) (fun _ _ _ h => nomatch h.1) (Or.inl ⟨by rfl, ?_⟩) (by assumption) ?_
        rotate_left
        · intro w hSw; obtain ⟨s1, s2, s3, s4, s5⟩ := hSw; (try go_simp); try with_reducible rfl
        try simp only [Act.put, List.setIfInBounds_toArray, List.set_cons_zero, List.set_cons_succ]
        refine held_take (i := 6) (v := ?_) rfl (by kernel_rfl) (by kernel_rfl) (by kernel_rfl) (fun _ _ _ h => nomatch h.1) (Or.inl ⟨by rfl, ?_⟩) (by assumption) ?_
        rotate_left
        · intro w hSw; obtain ⟨s1, s2, s3, s4, s5⟩ := hSw; (try go_simp); try with_reducible rfl
        try simp only [Act.put, List.setIfInBounds_toArray, List.set_cons_zero, List.set_cons_succ]
        refine held_take (i := 7) (v := ?_) rfl (by kernel_rfl) (by kernel_rfl) (by kernel_rfl) (fun _ _ _ h => nomatch h.1) (Or.inl ⟨by rfl, ?_⟩) (by assumption) ?_
        rotate_left
        · intro w hSw; obtain ⟨s1, s2, s3, s4, s5⟩ := hSw; (try go_simp); try with_reducible rfl
        try simp only [Act.put, List.setIfInBounds_toArray, List.set_cons_zero, List.set_cons_succ]
        refine held_take (i := 8) (v := ?_) rfl (by kernel_rfl) (by kernel_rfl) (by kernel_rfl) (fun _ _ _ h => nomatch h.1) (Or.inl ⟨by rfl, ?_⟩) (by assumption) ?_
        rotate_left
        · intro w hSw; obtain ⟨s1, s2, s3, s4, s5⟩ := hSw; (try go_simp); try with_reducible rfl
        try simp only [Act.put, List.setIfInBounds_toArray, List.set_cons_zero, List.set_cons_succ]
        refine held_take (i := 9) (v := ?_) rfl (by kernel_rfl) (by kernel_rfl) (by kernel_rfl) (fun _ _ _ h => nomatch h.1) (Or.inl ⟨by rfl, ?_⟩) (by assumption) ?_
        rotate_left
        · intro w hSw; obtain ⟨s1, s2, s3, s4, s5⟩ := hSw; (try go_simp); try with_reducible rfl
        try simp only [Act.put, List.setIfInBounds_toArray, List.set_cons_zero, List.set_cons_succ]
        refine held_one (i := 10) rfl (by kernel_rfl) (by rfl) (fun K' hK => ?_)
        go_simp
        refine (C52.out _ (Fr.refl _ _).drew).mono ?_
        rintro e w5 ⟨A3, c3, rfl, h31, h32, h33⟩
        have hFw : Fr [] W w5 := ((Fr.refl [] W).drew).trans h33 (by simp)
        refine hK.out _ _ ⟨hFw, cellF hFw k2, cellF hFw k3, cellF hFw kx, cellF hFw kp⟩ (fun hHeld => ?_)
        try simp only [Act.put, List.setIfInBounds_toArray, List.set_cons_zero, List.set_cons_succ]
        clear hK K' hHeld
        refine held_one (i := 11) rfl (by kernel_rfl) (by rfl) (fun K' hK => ?_)
        go_simp
        refine (C51.out _ _ _ hFw h32 h31).mono ?_
        rintro e w6 ⟨rfl, h51⟩
        have hFx : Fr [] W w6 := hFw.trans h51 (by simp)
        refine hK.out _ _ ⟨hFx, cellF hFx k2, cellF hFx k3, cellF hFx kx, cellF hFx kp⟩ (fun hHeld => ?_)
        try simp only [Act.put, List.setIfInBounds_toArray, List.set_cons_zero, List.set_cons_succ]
        clear hK K'
        refine held_take (i := 12) (v := ?_) rfl (by kernel_rfl) (by kernel_rfl) (by kernel_rfl) (fun _ _ _ h => nomatch h.1) (Or.inl ⟨by rfl, ?_⟩) (by assumption) ?_
        rotate_left
        · intro w hSw; obtain ⟨s1, s2, s3, s4, s5⟩ := hSw; (try go_simp); try with_reducible rfl
        try simp only [Act.put, List.setIfInBounds_toArray, List.set_cons_zero, List.set_cons_succ]
        refine wpAnyH_done (by kernel_rfl) ?_ _
        exact ⟨rfl, _, _, _, _, _, _, _, _, _, _, _, _, hFx, rfl⟩
      · rintro e a w' ⟨rfl, v12, v13, v14, v15, v16, v17, v18, v19, v20, v21, v22, v23, hFw, rfl⟩
        cases bs with
        | true =>
          have kx' := cellF hFw kx
          have k4' : w'.cell? ⟨w.heap.size + 1 + 1, 0, none⟩ = some (.int .i64 0) := cellF hFw (cellF HF.out (cell_of hm4 0))
          have f4' : w'.frozen? ⟨w.heap.size + 1 + 1, 0, none⟩ = false := froz_of ((hFw.block _ (Array.getElem?_eq_some_iff.1 ((HF.out.block _ (Array.getElem?_eq_some_iff.1 hm4).1 (by simp)).trans hm4)).1 (by simp)).trans ((HF.out.block _ (Array.getElem?_eq_some_iff.1 hm4).1 (by simp)).trans hm4)) 0
          have b4' : w'.heap[w.heap.size + 1 + 1]? = some (.cells #[.int .i64 0] 3 (0, 0)) := (hFw.block _ (Array.getElem?_eq_some_iff.1 ((HF.out.block _ (Array.getElem?_eq_some_iff.1 hm4).1 (by simp)).trans hm4)).1 (by simp)).trans ((HF.out.block _ (Array.getElem?_eq_some_iff.1 hm4).1 (by simp)).trans hm4)
          have hFX : Fr [] W5 w' := HF.out.trans hFw (by simp)
          gi_wp2
          refine ⟨(fr_keepsFrom hFw).trans ((KeepsOthers.setCell _ _ _).from _), rfl, pre, x, rfl, HHP.out, HAH.out, obj_set b4' 0 _, ?_⟩
          exact (hFX.mono (T := [w.heap.size + 1 + 1]) (by simp)).setCell (.inl (by simp)) _
        | false =>
          gi_wp2
          refine ⟨fr_keepsFrom hFw, hFw.below.mono HF.out.size, ?_, HF.out.trans hFw (by simp)⟩
          intro y hy
          rcases List.mem_append.1 hy with hy | hy
          · exact HHP.out y hy
          · obtain rfl : y = x := by simpa using hy
            exact HAH.out
    · have HHP := Lib.hid hp
      have hv' : x.2 ≤ view := by omega
      have hvd : decide (view < x.2) = false := by simpa using hv'
      gi_wp2
      refine wpIn_mono (Q := fun e a w' => e = .normal ∧ ∃ v12 v13 v14 v15 v16 v17 v18 v19 v20 v21 v22 v23, w' = W.drewN 1 ∧ a = { tmps := #[.pointer (some ⟨p, 0, none⟩), .int .i64 view, .pointer (some ⟨w.heap.size, 0, none⟩), .pointer (some ⟨w.heap.size + 1, 0, none⟩), .pointer (some ⟨w.heap.size + 1 + 1, 0, none⟩), undef, .pointer (some ⟨Bx, 0, none⟩), .pointer (some ⟨p, 0, none⟩), .slice B L.length d, .func (.func 84) #[] #[.pointer (some ⟨w4.heap.size, 0, none⟩)], .int .i64 x.1, .int .i64 x.2, v12, v13, v14, v15, v16, v17, v18, v19, v20, v21, v22, v23, .bool false, undef, undef], defers := [] }) ?_ ?_
      · clear hp hT5 hwv hI5 hL5 hLlen hTW hF hr hlt hl hb5 hs5 hF05 hF5 hsW h
        refine round_held (S := fun W' => Fr [] W W' ∧ W'.cell? ⟨w.heap.size, 0, none⟩ = some (.pointer (some ⟨p, 0, none⟩)) ∧ W'.cell? ⟨w.heap.size + 1, 0, none⟩ = some (.int .i64 view) ∧ W'.cell? ⟨Bx, 0, none⟩ = some (.int .i64 x.2) ∧ W'.cell? ⟨p, 0, none⟩ = some (.slice Am st.length cm)) hmx (by rintro ⟨a, w, h, _⟩; cases h) (by kernel_rfl) ⟨(Fr.refl _ _).drew, k2, k3, kx, kp⟩ (fun hHeld => ?_)
        refine held_take (i := 0) (v := ?_) rfl (by kernel_rfl) (by kernel_rfl) (by kernel_rfl) (fun _ _ _ h => nomatch h.1) (Or.inl ⟨by rfl, ?_⟩) (by assumption) ?_
        rotate_left
        · intro w hSw; obtain ⟨s1, s2, s3, s4, s5⟩ := hSw; (try go_simp); try with_reducible rfl
        try simp only [Act.put, List.setIfInBounds_toArray, List.set_cons_zero, List.set_cons_succ]
        refine held_take (i := 1) (v := ?_) rfl (by kernel_rfl) (by kernel_rfl) (by kernel_rfl) (fun _ _ _ h => nomatch h.1) (Or.inl ⟨by rfl, ?_⟩) (by assumption) ?_
        rotate_left
        · intro w hSw; obtain ⟨s1, s2, s3, s4, s5⟩ := hSw; (try go_simp); try with_reducible rfl
        try simp only [Act.put, List.setIfInBounds_toArray, List.set_cons_zero, List.set_cons_succ]
        refine held_take (i := 2) (v := .bool false) rfl (by kernel_rfl) (by kernel_rfl) (by kernel_rfl) (fun _ _ _ h => nomatch h.1) (Or.inl ⟨by rfl, ?_⟩) (by assumption) ?_
        · intro w hSw; obtain ⟨s1, s2, s3, s4, s5⟩ := hSw; (try go_simp); try with_reducible rfl
        try simp only [Act.put, List.setIfInBounds_toArray, List.set_cons_zero, List.set_cons_succ]
        refine held_take (i := 3) (v := .bool false) rfl (by kernel_rfl) (by kernel_rfl) (by kernel_rfl) (fun _ _ _ h => nomatch h.1) (Or.inl ⟨by rfl, ?_⟩) (by assumption) ?_
        · intro w hSw; obtain ⟨s1, s2, s3, s4, s5⟩ := hSw; (try go_simp); try with_reducible rfl
        try simp only [Act.put, List.setIfInBounds_toArray, List.set_cons_zero, List.set_cons_succ]
        refine held_take (i := 4) (v := undef) rfl (by kernel_rfl) (by kernel_rfl) (by kernel_rfl) (fun _ _ _ h => nomatch h.1) (Or.inr ⟨by rfl, rfl⟩) (by assumption) ?_
        try simp only [Act.put, List.setIfInBounds_toArray, List.set_cons_zero, List.set_cons_succ]
        refine held_take (i := 5) (v := undef) rfl (by kernel_rfl) (by kernel_rfl) (by kernel_rfl) (fun _ _ _ h => nomatch h.1) (Or.inr ⟨by rfl, rfl⟩) (by assumption) ?_
        try simp only [Act.put, List.setIfInBounds_toArray, List.set_cons_zero, List.set_cons_succ]
        refine held_take (i := 6) (v := undef) rfl (by kernel_rfl) (by kernel_rfl) (by kernel_rfl) (fun _ _ _ h => nomatch h.1) (Or.inr ⟨by rfl, rfl⟩) (by assumption) ?_
        try simp only [Act.put, List.setIfInBounds_toArray, List.set_cons_zero, List.set_cons_succ]
        refine held_take (i := 7) (v := undef) rfl (by kernel_rfl) (by kernel_rfl) (by kernel_rfl) (fun _ _ _ h => nomatch h.1) (Or.inr ⟨by rfl, rfl⟩) (by assumption) ?_
        try simp only [Act.put, List.setIfInBounds_toArray, List.set_cons_zero, List.set_cons_succ]
        refine held_take (i := 8) (v := undef) rfl (by kernel_rfl) (by kernel_rfl) (by kernel_rfl) (fun _ _ _ h => nomatch h.1) (Or.inr ⟨by rfl, rfl⟩) (by assumption) ?_
        try simp only [Act.put, List.setIfInBounds_toArray, List.set_cons_zero, List.set_cons_succ]
        refine held_take (i := 9) (v := undef) rfl (by kernel_rfl) (by kernel_rfl) (by kernel_rfl) (fun _ _ _ h => nomatch h.1) (Or.inr ⟨by rfl, rfl⟩) (by assumption) ?_
        try simp only [Act.put, List.setIfInBounds_toArray, List.set_cons_zero, List.set_cons_succ]
        refine held_take (i := 10) (v := undef) rfl (by kernel_rfl) (by kernel_rfl) (by kernel_rfl) (fun _ _ _ h => nomatch h.1) (Or.inr ⟨by rfl, rfl⟩) (by assumption) ?_
        try simp only [Act.put, List.setIfInBounds_toArray, List.set_cons_zero, List.set_cons_succ]
        refine held_take (i := 11) (v := undef) rfl (by kernel_rfl) (by kernel_rfl) (by kernel_rfl) (fun _ _ _ h => nomatch h.1) (Or.inr ⟨by rfl, rfl⟩) (by assumption) ?_
        try simp only [Act.put, List.setIfInBounds_toArray, List.set_cons_zero, List.set_cons_succ]
        refine held_take (i := 12) (v := ?_) rfl (by kernel_rfl) (by kernel_rfl) (by kernel_rfl) (fun _ _ _ h => nomatch h.1) (Or.inl ⟨by rfl, ?_⟩) (by assumption) ?_
        rotate_left
        · intro w hSw; obtain ⟨s1, s2, s3, s4, s5⟩ := hSw; (try go_simp); try with_reducible rfl
        try simp only [Act.put, List.setIfInBounds_toArray, List.set_cons_zero, List.set_cons_succ]
        refine wpAnyH_done (by kernel_rfl) ?_ _
        exact ⟨rfl, _, _, _, _, _, _, _, _, _, _, _, _, rfl, rfl⟩
      · rintro e a w' ⟨rfl, v12, v13, v14, v15, v16, v17, v18, v19, v20, v21, v22, v23, rfl, rfl⟩
        gi_wp2
        have hFw : Fr [] W (W.drewN 1) := (Fr.refl _ _).drewN 1
        refine ⟨fr_keepsFrom hFw, hFw.below.mono HF.out.size, ?_, HF.out.trans hFw (by simp)⟩
        intro y hy
        rcases List.mem_append.1 hy with hy | hy
        · exact HHP.out y hy
        · obtain rfl : y = x := by simpa using hy
          unfold ahV
          rw [hvd]; rfl
  case done =>
    rintro D ys W hD rfl ⟨hp, hF⟩ hK
    have k3 : W.cell? ⟨w.heap.size + 1, 0, none⟩ = some (.int .i64 view) := cellF hF hm3
    have b4' := (hF.block _ (Array.getElem?_eq_some_iff.1 hm4).1 (by simp)).trans hm4
    have k4 := cell_of b4' 0
    have f4 := froz_of b4' 0
    gi_wp2
    have hK' := (KeepsOthers.setCell W ⟨w.heap.size + 1 + 1, 0, none⟩ (.int .i64 view)).same D _ hK rfl
    refine ⟨by simp, .inl ⟨_, _, rfl, run_takeDeferred hK', ?_⟩⟩
    have hc5 := cell_kept (cell_of (obj_set b4' 0 (.int .i64 view)) 0) (grownBy_putObj' _ D (.deferred none)) (fun r e => by cases e; exact ⟨_, hK', rfl⟩)
    refine ⟨.int .i64 view, ?_, by rw [ahP_none HL.out hp], ?_⟩
    · simp [results, Tryz.f51, go_sem, hc5]
    · have hFa : Fr [] w (W.setCell ⟨w.heap.size + 1 + 1, 0, none⟩ (.int .i64 view)) := (hF05.trans hF (by simp)).setCell (.inr (by show w.heap.size ≤ w.heap.size + 1 + 1; omega)) _
      exact hFa.trans (Fr.grown [D] (grownBy_putObj' _ D _) (fun k e => by cases e; simp)) (fun k hk => .inr (by have := hF05.size; simp at hk; omega))
  case stop =>
    rintro D c pre W hD ⟨k, hk, hpe⟩ ⟨rfl, pre', x, hpre, hp, hx, hcell, hF⟩ hK
    have k4 := cell_of hcell 0
    gi_wp2
    refine ⟨by simp, .inl ⟨_, _, rfl, run_takeDeferred hK, ?_⟩⟩
    have hc5 := cell_kept k4 (grownBy_putObj' _ D (.deferred none)) (fun r e => by cases e; exact ⟨_, hK, rfl⟩)
    refine ⟨.int .i64 x.2, ?_, by rw [ahP_some HL.out hk (hpe.symm.trans hpre) hp hx], ?_⟩
    · have hc5 : (W.putObj D (.deferred none)).cell? ⟨w.heap.size + 1 + 1, 0, none⟩ = some (.int .i64 x.2) := hc5
      simp [results, Tryz.f51, go_sem, hc5]
    · have hFa : Fr [] w W := (hF05.trans hF (fun y hy => .inr (by simp at hy; omega)))
      exact hFa.trans (Fr.grown [D] (grownBy_putObj' _ D _) (fun k e => by cases e; simp)) (fun k hk => .inr (by have := hF05.size; simp at hk; omega))
end Go.Np.Tryz
