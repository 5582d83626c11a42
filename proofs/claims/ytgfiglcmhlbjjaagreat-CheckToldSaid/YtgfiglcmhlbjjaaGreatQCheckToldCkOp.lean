/- What CheckTold needs. -/
import Derived.Test.YtgfiglcmhlbjjaaGreatQCheckToldTaC
import Derived.Test.YtgfiglcmhlbjjaaGreatQCheckToldPXx13
import Derived.Deep.SlicePairs
import Derived.SizedLaws
import Derived.ChangeSlices
section
set_option linter.unusedVariables false
set_option linter.unusedSimpArgs false
namespace Go.Np.Tryz
open Go.RowKit Go.Proofs.YtgfiglcmhlbjjaaGreat.PX Go.Proofs.YtgfiglcmhlbjjaaGreatW.PrintWords
def Good (n : Nat) (mS : List S41) : Prop := ∃ m, m.map toS = mS ∧ Inv n m
section
variable {n : Nat} {st : List Int} {a b : List S41}
theorem Good.from (h : Good n a) : ∀ q ∈ a, 0 ≤ q.f2 ∧ q.f2 < n := by
  obtain ⟨m, rfl, hi⟩ := h
  intro q hq
  obtain ⟨x, hx, rfl⟩ := List.mem_map.1 hq
  exact ⟨(hi.ok x hx).2.2.2.1, (hi.ok x hx).2.2.2.2.1⟩
theorem some_mono {A B : List Int} (hst : okS st) (h : ∀ x ∈ A, x ∈ B) (ha : someB st A = true) : someB st B = true := by
  simp only [someB, decide_eq_true_eq] at ha ⊢
  have : wl st A ≤ wl st B := ws_mono hst.2.2 (fun x hx => by simp only [decide_eq_true_eq] at hx ⊢; exact h x hx) 0
  omega
end
end Go.Np.Tryz
end
section
set_option linter.unusedVariables false
set_option linter.unusedSimpArgs false
namespace Go.Np.Tryz
open Go.RowKit Go.Proofs.YtgfiglcmhlbjjaaGreat.PX Go.Proofs.YtgfiglcmhlbjjaaGreatW.PrintWords
structure Am where
  (too kd fr ix vw vl pr : Int)
deriving DecidableEq
structure Co where
  (me base most : Int)
  st : List Int
  decs : List Int
  (view step tip : Int)
  m : List S41
  props : List (Int × (Int × Int))
  said : List (Int × Int)
  (lock valid : Int × Int)
  out : List Am
namespace Co
def idx (c : Co) : Int := c.decs.length
def send (c : Co) (a : Am) : Co := { c with out := c.out ++ [a] }
def voteM (c : Co) (k x : Int) : Am := ⟨-1, k, c.me, c.idx, c.view, x, 0⟩
def cast (c : Co) (k x : Int) : Co :=
  if addR c.st.length c.m ⟨k, c.view, c.me, x⟩ = true then ({ c with m := c.m ++ [(⟨k, c.view, c.me, x⟩ : S41)] } : Co).send (c.voteM k x) else c
def toS (c : Co) (s : Int) : Co := { c with step := s }
end Co
def leaderN (index view nodes : Int) : Int :=
  if index < 0 ∨ 1000 < index ∨ view < 0 ∨ 1000 < view ∨ nodes < 1 ∨ 7 < nodes then 0 else (index + view).tmod nodes
namespace Co
def leads (c : Co) (node v : Int) : Bool := decide (leaderN c.idx v c.st.length = node)
def offer (c : Co) : Am := ⟨-1, 3, c.me, c.idx, c.view, ((alook c.props c.view).getD (0, 0)).1, ((alook c.props c.view).getD (0, 0)).2⟩
def bid (c : Co) : Int × Int := if 0 ≤ c.valid.2 then c.valid else (c.tip, -1)
def enter (c : Co) (v : Int) : Co :=
  if (alook c.props v).isSome = true ∨ c.leads c.me v = false then { c with view := v, step := 1 }
  else
    let d : Co := { c with view := v, step := 1, props := aput c.props v c.bid }
    d.send d.offer
def saidBy (c : Co) (v : Int) : List Int := (c.said.filter fun q => decide (q.2 = v)).map (·.1)
def agreed (c : Co) : Int × Bool :=
  if (comR c.st c.m).2 = true then ((comR c.st c.m).1, true)
  else
    match ((c.said.map (·.2)).mergeSort fun x y => decide (x ≤ y)).find? (fun v => someB c.st (c.saidBy v)) with
    | some v => (v, true)
    | none => (0, false)
def judge (c : Co) (p : Int × Int) : Int × Bool :=
  if p.2 = -1 then (if c.lock.2 = -1 ∨ c.lock.1 = p.1 then (p.1, true) else (-1, true))
  else if (mostR c.st c.m 4 p.2).2 = true ∧ (mostR c.st c.m 4 p.2).1 = p.1 then (if c.lock.2 ≤ p.2 ∨ c.lock.1 = p.1 then (p.1, true) else (-1, true))
  else (0, false)
def rest (c : Co) : Co := { c with view := 0, step := 0, m := [], props := [], said := [], lock := (0, -1), valid := (0, -1) }
def decide1 (c : Co) (v : Int) : Co := ({ c.send ⟨-1, 6, c.me, c.idx, 0, v, 0⟩ with decs := c.decs ++ [v] } : Co).rest
end Co
def knowsB (known : List Int) (v : Int) : Bool := decide (v = 0) || known.contains v
namespace Co
def next (known : List Int) (c : Co) : Co × Bool :=
  if 1000 < c.idx then (c, false)
  else if c.agreed.2 = true then (c.decide1 c.agreed.1, true)
  else if c.step = 0 then (c, false)
  else if c.view < ahR c.st c.m c.view then (c.enter (ahR c.st c.m c.view), true)
  else if c.step = 1 then
    match alook c.props c.view with
    | none => (c, false)
    | some p =>
      if knowsB known p.1 = false ∨ (c.judge p).2 = false then (c, false)
      else ((c.cast 4 (c.judge p).1).toS 2, true)
  else if (mostR c.st c.m 4 c.view).2 = false ∨ ((mostR c.st c.m 4 c.view).1 ≠ -1 ∧ knowsB known (mostR c.st c.m 4 c.view).1 = false) then (c, false)
  else if c.step = 2 then
    let p := (mostR c.st c.m 4 c.view).1
    let d : Co := if p = -1 then c else { c with lock := (p, c.view), valid := (p, c.view) }
    ((d.cast 5 p).toS 3, true)
  else if (mostR c.st c.m 4 c.view).1 ≠ -1 ∧ c.valid.2 < c.view then ({ c with valid := ((mostR c.st c.m 4 c.view).1, c.view) }, false)
  else (c, false)
inductive Settles (known : List Int) : Co → Co → Prop
  | stop {c c' : Co} : c.next known = (c', false) → Settles known c c'
  | go {c c1 c' : Co} : c.next known = (c1, true) → Settles known c1 c' → Settles known c c'
def addV (c : Co) (k v f x : Int) : Co := { c with m := stepR c.st.length c.m ⟨k, v, f, x⟩ }
def take (c : Co) (a : Am) : Co :=
  if a.kd = 4 ∨ a.kd = 5 then c.addV a.kd a.vw a.fr a.vl
  else if a.kd = 3 then (if (alook c.props a.vw).isNone = true ∧ c.leads a.fr a.vw = true then { c with props := aput c.props a.vw (a.vl, a.pr) } else c)
  else if (alook c.said a.fr).isNone = true then { c with said := aput c.said a.fr a.vl } else c
def idle (c : Co) (a : Am) : Option (List Am) :=
  if a.kd < 3 ∨ a.fr < 0 ∨ (c.st.length : Int) ≤ a.fr ∨ c.idx < a.ix ∨ a.ix < 0 then some []
  else if a.ix < c.idx then (if a.kd = 6 then some [] else some [⟨a.fr, 6, c.me, a.ix, 0, c.decs.getD a.ix.toNat 0, 0⟩])
  else none
def flush (c : Co) : Co := { c with out := [] }
def Handles (known : List Int) (c : Co) (a : Am) (c' : Co) (l : List Am) : Prop :=
  match c.idle a with
  | some o => c' = c ∧ l = o
  | none => ∃ d, Settles known (c.take a) d ∧ c' = d.flush ∧ l = d.out
def lapse (c : Co) : Co :=
  if c.step = 1 then (c.cast 4 (-1)).toS 2
  else if c.step = 2 then (c.cast 5 (-1)).toS 3
  else if c.step = 3 then (if c.view < 1000 then (c.toS 3).enter (c.view + 1) else c.toS 3)
  else c
def votesM (c : Co) (k : Int) : List Am := match ofR c.m k c.view c.me with | some v => [c.voteM k v] | none => []
def again0 (c : Co) : List Am := (if (alook c.props c.view).isSome = true ∧ c.leads c.me c.view = true then [c.offer] else []) ++ c.votesM 4 ++ c.votesM 5
def sameM (a b : Am) : Bool := decide (a.kd = b.kd) && decide (a.fr = b.fr) && decide (a.ix = b.ix) && decide (a.vw = b.vw) && decide (a.vl = b.vl) && decide (a.pr = b.pr)
def again (c : Co) : Co := { c with out := c.out ++ c.again0.filter fun a => !(c.out.any fun b => sameM b a) }
def tick1 (c : Co) (b : Bool) : Co := if c.step = 0 then c.enter 0 else if b = true then c.lapse else c
def Ticks (known : List Int) (tip : Int) (c : Co) (c' : Co) (l : List Am) : Prop :=
  if 1000 < c.idx then c' = { c with tip := tip } ∧ l = []
  else ∃ b d, Settles known (({ c with tip := tip } : Co).tick1 b) d ∧ c' = (if d.step = 0 then d else d.again).flush ∧ l = (if d.step = 0 then d else d.again).out
def new (me : Int) (st : List Int) (base most : Int) : Co := ⟨me, base, most, st, [], 0, 0, 0, [], [], [], (0, -1), (0, -1), []⟩
def mu (c : Co) : Nat := (1001 - c.decs.length) * 10000 + (1001 - c.view).toNat * 4 + (4 - c.step).toNat
structure Ok (c : Co) : Prop where
  st : okS c.st
  me : 0 ≤ c.me ∧ c.me < c.st.length
  view : 0 ≤ c.view ∧ c.view ≤ 1000
  step : 0 ≤ c.step ∧ c.step ≤ 3
  votes : Good c.st.length c.m
end Co
end Go.Np.Tryz
end
section
set_option linter.unusedVariables false
set_option linter.unusedSimpArgs false
namespace Go.Np.Tryz
open Go.RowKit Go.Proofs.YtgfiglcmhlbjjaaGreat.PX Go.Proofs.YtgfiglcmhlbjjaaGreatW.PrintWords
theorem wfI {x : Int} (h : -9223372036854775808 ≤ x) (h2 : x ≤ 9223372036854775807) : wf64 x := by
  show (Lit.int .i64 x).wf = true
  simp [Lit.wf, IntKind.min, IntKind.max, IntKind.signed, IntKind.bits]; omega
theorem Good.nil (n : Nat) : Good n [] := ⟨[], rfl, Inv.nil n⟩
theorem addR_ok {n : Nat} {m : List S41} {q : S41} (h : addR n m q = true) : (q.f0 = 4 ∨ q.f0 = 5) ∧ 0 ≤ q.f1 ∧ q.f1 ≤ 1000 ∧ 0 ≤ q.f2 ∧ q.f2 < n ∧ -1 ≤ q.f3 := by
  unfold addR at h
  simp only [Bool.and_eq_true, Bool.or_eq_true, decide_eq_true_eq] at h
  obtain ⟨⟨⟨⟨⟨⟨_, h1⟩, h2⟩, h3⟩, h4⟩, h5⟩, h6⟩ := h
  exact ⟨h1, h2, h3, h4, h5, h6⟩
theorem Good.add {st : List Int} {m : List S41} {q : S41} (hst : okS st) (h : Good st.length m) (ha : addR st.length m q = true) : Good st.length (m ++ [q]) := by
  obtain ⟨l, rfl, hi⟩ := h
  obtain ⟨K, V, F, x⟩ := q
  obtain ⟨h1, h2, h3, h4, h5, h6⟩ := addR_ok ha
  simp only at h1 h2 h3 h4 h5 h6
  have hn := hst.2.1
  have hwf : wf64 K ∧ wf64 V ∧ wf64 F := by
    rcases h1 with rfl | rfl <;> exact ⟨by decide, wfI (by omega) (by omega), wfI (by omega) (by omega)⟩
  refine ⟨l ++ [(⟨(K, V, F), hwf⟩, x)], by simp [toS], hi.add ?_⟩
  rw [addB_eq]
  exact ha
theorem ahv_fold (st : List Int) (m : List S41) : ∀ (l : List S41) (b : Int), l.foldl (ahStep st m) b = b ∨ ∃ q ∈ l, l.foldl (ahStep st m) b = q.f1 := by
  intro l
  induction l with
  | nil => intro b; exact .inl rfl
  | cons q l ih =>
    intro b
    rw [List.foldl_cons]
    rcases ih (ahStep st m b q) with h | ⟨u, hu, h⟩
    · rw [h]
      unfold ahStep
      split
      · exact .inr ⟨q, by simp, rfl⟩
      · exact .inl rfl
    · exact .inr ⟨u, by simp [hu], h⟩
theorem Good.view {n : Nat} {m : List S41} (h : Good n m) : ∀ q ∈ m, 0 ≤ q.f1 ∧ q.f1 ≤ 1000 := by
  obtain ⟨l, rfl, hi⟩ := h
  intro q hq
  obtain ⟨x, hx, rfl⟩ := List.mem_map.1 hq
  exact ⟨(hi.ok x hx).2.1, (hi.ok x hx).2.2.1⟩
theorem ahR_view {n : Nat} {st : List Int} {m : List S41} (h : Good n m) {v : Int} (hv : v < ahR st m v) : ahR st m v ≤ 1000 := by
  rcases ahv_fold st m m v with e | ⟨q, hq, e⟩
  · unfold ahR at hv; omega
  · unfold ahR; rw [e]; exact (h.view q hq).2
namespace Co
variable {c c' : Co} {known : List Int}
theorem Ok.cast (h : Ok c) (k x : Int) : Ok (c.cast k x) := by
  unfold Co.cast
  split
  · rename_i ha; exact ⟨h.st, h.me, h.view, h.step, h.votes.add h.st ha⟩
  · exact h
theorem cast_same (c : Co) (k x : Int) : (c.cast k x).st = c.st ∧ (c.cast k x).me = c.me ∧ (c.cast k x).view = c.view ∧ (c.cast k x).step = c.step ∧ (c.cast k x).decs = c.decs := by
  unfold Co.cast; split <;> exact ⟨rfl, rfl, rfl, rfl, rfl⟩
theorem Ok.toS (h : Ok c) {s : Int} (hs : 0 ≤ s ∧ s ≤ 3) : Ok (c.toS s) := ⟨h.st, h.me, h.view, hs, h.votes⟩
theorem Ok.enter (h : Ok c) {v : Int} (hv : 0 ≤ v ∧ v ≤ 1000) : Ok (c.enter v) := by
  unfold Co.enter
  split
  · exact ⟨h.st, h.me, hv, by simp, h.votes⟩
  · exact ⟨h.st, h.me, hv, by simp [Co.send], h.votes⟩
theorem enter_same (c : Co) (v : Int) : (c.enter v).decs = c.decs ∧ (c.enter v).view = v ∧ (c.enter v).step = 1 := by
  unfold Co.enter; split <;> exact ⟨rfl, rfl, rfl⟩
theorem Ok.decide1 (h : Ok c) (v : Int) : Ok (c.decide1 v) := ⟨h.st, h.me, by simp [Co.decide1, Co.rest], by simp [Co.decide1, Co.rest], Good.nil _⟩
theorem Ok.next (h : Ok c) (known : List Int) : Ok (c.next known).1 := by
  unfold Co.next
  by_cases h1 : 1000 < c.idx
  · rw [if_pos h1]; exact h
  rw [if_neg h1]
  by_cases h2 : c.agreed.2 = true
  · rw [if_pos h2]; exact h.decide1 _
  rw [if_neg h2]
  by_cases h3 : c.step = 0
  · rw [if_pos h3]; exact h
  rw [if_neg h3]
  by_cases h4 : c.view < ahR c.st c.m c.view
  · rw [if_pos h4]
    have hv := h.view
    have hb := ahR_view h.votes h4
    exact h.enter ⟨by omega, hb⟩
  rw [if_neg h4]
  by_cases h5 : c.step = 1
  · rw [if_pos h5]
    split
    · exact h
    · split
      · exact h
      · exact (h.cast _ _).toS (by omega)
  rw [if_neg h5]
  split
  · exact h
  split
  · dsimp only
    split
    · exact (h.cast _ _).toS (by omega)
    · refine Ok.toS (s := 3) (Ok.cast ?_ _ _) (by omega)
      exact ⟨h.st, h.me, h.view, h.step, h.votes⟩
  split
  · exact ⟨h.st, h.me, h.view, h.step, h.votes⟩
  · exact h
theorem next_mu (h : Ok c) (hn : (c.next known).2 = true) : (c.next known).1.mu < c.mu := by
  have hv := h.view
  have hs := h.step
  unfold Co.next at hn ⊢
  split
  · rename_i h1; rw [if_pos h1] at hn; cases hn
  rename_i h1
  rw [if_neg h1] at hn
  split
  · rename_i h2
    unfold Co.decide1 Co.rest Co.send Co.mu
    unfold Co.idx at h1
    simp only [List.length_append, List.length_singleton]
    omega
  rename_i h2
  rw [if_neg h2] at hn
  split
  · rename_i h3; rw [if_pos h3] at hn; cases hn
  rename_i h3
  rw [if_neg h3] at hn
  split
  · rename_i h4
    have hb := ahR_view h.votes h4
    obtain ⟨e1, e2, e3⟩ := enter_same c (ahR c.st c.m c.view)
    unfold Co.mu
    rw [e1, e2, e3]
    omega
  rename_i h4
  rw [if_neg h4] at hn
  split
  · rename_i h5
    rw [if_pos h5] at hn
    split
    · rename_i h6; rw [h6] at hn; cases hn
    · rename_i p h6
      rw [h6] at hn
      simp only at hn
      split
      · rename_i h7; rw [if_pos h7] at hn; cases hn
      · obtain ⟨e1, e2, e3, e4, e5⟩ := cast_same c 4 (c.judge p).1
        unfold Co.mu Co.toS
        simp only
        rw [e3, e5]
        omega
  rename_i h5
  rw [if_neg h5] at hn
  split
  · rename_i h6; rw [if_pos h6] at hn; cases hn
  rename_i h6
  rw [if_neg h6] at hn
  split
  · rename_i h7
    dsimp only
    have key : ∀ d : Co, d.view = c.view → d.decs = c.decs → ((d.cast 5 (mostR c.st c.m 4 c.view).1).toS 3).mu < c.mu := by
      intro d e1 e2
      obtain ⟨_, _, f3, _, f5⟩ := cast_same d 5 (mostR c.st c.m 4 c.view).1
      unfold Co.mu Co.toS
      simp only
      rw [f3, f5, e1, e2]
      omega
    split
    · exact key _ rfl rfl
    · exact key _ rfl rfl
  rename_i h7
  rw [if_neg h7] at hn
  split
  · rename_i h8; rw [if_pos h8] at hn; cases hn
  · rename_i h8; rw [if_neg h8] at hn; cases hn
theorem Settles.ok {d : Co} (h : Settles known c d) (hc : Ok c) : Ok d := by
  induction h with
  | stop e => have := hc.next known; rw [e] at this; exact this
  | go e _ ih => have := hc.next known; rw [e] at this; exact ih this
end Co
end Go.Np.Tryz
end
section
set_option linter.unusedVariables false
set_option linter.unusedSimpArgs false
namespace Go.Np.Tryz
open Go.RowKit Go.Proofs Go.ChangeShapes Go.WideShapes Go.Proofs.YtgfiglcmhlbjjaaGreat.PX Go.Proofs.YtgfiglcmhlbjjaaGreatW.PrintWords
theorem cells59 : Tryz.prog.cellsOf 27 = 2 := by kernel_rfl
set_option maxRecDepth 100000 in
theorem two_ints {H : Type} {enc : TypeId × Value → H} {W : World} {base : Nat} {sp : Nat → Bool} {held : Bool} {n : Nat} {cs : List Value} {x : DataW H × List MemPlace} (hl : cs.length = 2)
    (h : DataW.trod enc Tryz.prog W base sp held n 27 cs = some x) : ∃ q : S27, cs = [.int .i64 q.f0, .int .i64 q.f1] := by
  obtain ⟨xs, m, _, _, _, hxl, hf⟩ := DataW.trod_struct Tryz.underlying27 h
  have hc : Tryz.prog.cellsOf 3 = 1 := by kernel_rfl
  match cs, hl with
  | [v0, v1], _ =>
    match xs, hxl with
    | [y0, y1], _ =>
      have h0 := hf 0 _ rfl
      have h1 := hf 1 _ rfl
      simp [hc] at h0 h1
      obtain ⟨a, ea, _, wa⟩ := DataW.trod_int Tryz.underlying3 h0
      obtain ⟨b, eb, _, wb⟩ := DataW.trod_int Tryz.underlying3 h1
      simp at ea eb
      subst ea eb
      exact ⟨⟨a, b⟩, rfl⟩
theorem rows_C {α : Type} (d : Kd α) (z : α) {W : World} {ad : Addr} {n : Nat} {F : α → Prop} (hm : n ≤ maxLen) (each : ∀ j, j < n → ∃ (q : α), F q ∧ ∃ (cs : List Value), cs.length = d.sz ∧ d.K W q cs ∧ ∀ i u, cs[i]? = some u → W.cell? (ad.add (j * d.sz + i)) = some u) :
    ∃ l : List α, l.length = n ∧ d.C W (some ad) n l ∧ ∀ q ∈ l, F q := by
  have hq : ∃ f : Nat → α, ∀ j, j < n → F (f j) ∧ ∃ cs : List Value, cs.length = d.sz ∧ d.K W (f j) cs ∧ ∀ i u, cs[i]? = some u → W.cell? (ad.add (j * d.sz + i)) = some u :=
    ⟨fun j => if h : j < n then Classical.choose (each j h) else z, fun j hj => by simp only [dif_pos hj]; exact Classical.choose_spec (each j hj)⟩
  obtain ⟨f, hf⟩ := hq
  refine ⟨(List.range n).map f, by simp, ⟨by simp, hm, fun _ => ⟨ad, rfl, fun j p hp => ?_⟩⟩, fun q hq => by
    obtain ⟨j, hj, rfl⟩ := List.mem_map.1 hq
    exact (hf j (by simpa using hj)).1⟩
  have hj : j < n := by simpa using (List.getElem?_eq_some_iff.1 hp).1
  have hpf : p = f j := by simpa [hj] using hp.symm
  subst hpf
  exact (hf j hj).2
set_option maxRecDepth 100000 in
theorem open_txs {H : Type} {enc : TypeId × Value → H} {W : World} {base : Nat} {sp : Nat → Bool} {held : Bool} {n : Nat} {v : Value} {x : DataW H × List MemPlace}
    (h : DataW.trod enc Tryz.prog W base sp held n 28 [v] = some x) : ∃ (A : Option Addr) (c : Nat) (l : List S27), v = .slice A l.length c ∧ l.length ≤ c ∧ k27.C W A l.length l ∧ (l.length = 0 ∨ ∃ m ∈ x.1.weights Tryz.prog 28, l.length * 16 ≤ m) := by
  rcases Go.Deep.open_slice Tryz.underlying28 h with ⟨hcs, _⟩ | ⟨ad, len, cap, m, k, D, Pl, hcs, _, hlc, hcm, hm, hxx, hx⟩
  · simp at hcs
    subst hcs
    exact ⟨none, 0, [], rfl, Nat.le_refl _, ⟨rfl, Nat.zero_le _, fun h => absurd h (Nat.lt_irrefl 0)⟩, .inl rfl⟩
  · simp at hcs
    subst hcs
    have hlm : len ≤ m := by rw [hm]; split <;> omega
    obtain ⟨l, hl, hC, _⟩ := rows_C k27 z27 (F := fun _ => True) (W := W) (ad := ad) (n := len) (by omega) (fun j hj => by
      obtain ⟨cs', h1, h2⟩ := hx j (by omega)
      rw [cells59] at h1
      obtain ⟨_, hlen, hcell⟩ := World.cells?_some h1
      obtain ⟨q, rfl⟩ := two_ints hlen h2
      refine ⟨q, trivial, _, rfl, k27_mk W q, fun i u hu => ?_⟩
      have hi : i < 2 := by simpa using (List.getElem?_eq_some_iff.1 hu).1
      have := hcell i (by omega)
      rw [Go.Deep.add_add] at this
      exact this.trans hu)
    subst hl
    refine ⟨some ad, cap, l, rfl, hlc, hC, .inr ⟨_, by rw [hxx]; simp only [DataW.weights, Tryz.underlying28]; exact .head _, ?_⟩⟩
    have hb : Tryz.prog.bytesOf 27 = 16 := by kernel_rfl
    rw [hb]
    simp only [List.length_map, List.length_range]
    omega
theorem open_intsC {W : World} {H : Type} {enc : TypeId × Value → H} {base : Nat} {sp : Nat → Bool} {held : Bool} {n : Nat} {v : Value} {x : DataW H × List MemPlace}
    (h : DataW.trod enc Tryz.prog W base sp held n 22 [v] = some x) : ∃ (l : List Int) (A : Option Addr) (c : Nat), v = .slice A l.length c ∧ l.length ≤ c ∧ (Kd.int .i64).C W A l.length l := by
  rcases open_ints Tryz.underlying22 Tryz.underlying3 (by kernel_rfl) h with ⟨hcs, _⟩ | ⟨a, len, cap, zs, hcs, _, hlc, hcm, hz, _, hcell, _⟩
  · simp at hcs
    exact ⟨[], none, 0, hcs, Nat.zero_le _, ⟨rfl, Nat.zero_le _, fun h => absurd h (Nat.lt_irrefl 0)⟩⟩
  · simp at hcs
    have hlz : len ≤ zs.length := by rw [hz]; split <;> omega
    have hl : (zs.take len).length = len := by rw [List.length_take]; omega
    refine ⟨zs.take len, some a, cap, by rw [hl]; exact hcs, by rw [hl]; exact hlc, rfl, by rw [hl]; unfold maxLen at hcm; omega, fun h0 => ⟨a, rfl, fun j p hp => ?_⟩⟩
    rw [List.getElem?_take] at hp
    split at hp
    · rename_i hj
      have hjz : j < zs.length := by omega
      have hp' : zs.getD j 0 = p := by rw [List.getD_eq_getElem?_getD, hp]; rfl
      refine ⟨[.int .i64 p], rfl, by first | rfl | exact ⟨rfl⟩ | simp [Kd.int, Kd.scalar], fun i u hu => ?_⟩
      cases i with
      | zero => simp at hu; subst hu; have := hcell j hjz; rw [hp'] at this; simpa [Kd.int, Kd.scalar] using this
      | succ i => simp at hu
    · cases hp
structure Mg where
  (kd fr ix vw vl pr t0 t1 b0 b1 b2 b3 : Int)
  txs : List S27
  A : Option Addr
  c : Nat
def Mg.cells (m : Mg) : List Value := [.int .i64 m.kd, .int .i64 m.fr, .int .i64 m.ix, .int .i64 m.vw, .int .i64 m.vl, .int .i64 m.pr, .int .i64 m.t0, .int .i64 m.t1, .int .i64 m.b0, .int .i64 m.b1, .int .i64 m.b2, .int .i64 m.b3, .slice m.A m.txs.length m.c]
structure Mg.Fine (W : World) (m : Mg) : Prop where
  l : m.txs.length ≤ m.c
  C : k27.C W m.A m.txs.length m.txs
  wf : wf64 m.kd ∧ wf64 m.fr ∧ wf64 m.ix ∧ wf64 m.vw ∧ wf64 m.vl ∧ wf64 m.pr ∧ wf64 m.b3
theorem cells32 : Tryz.prog.cellsOf 32 = 13 := by kernel_rfl
set_option maxRecDepth 100000 in
theorem open_msg {H : Type} {enc : TypeId × Value → H} {W : World} {base : Nat} {sp : Nat → Bool} {held : Bool} {n : Nat} {cs : List Value} {x : DataW H × List MemPlace} (hl : cs.length = 13)
    (h : DataW.trod enc Tryz.prog W base sp held n 32 cs = some x) : ∃ m : Mg, cs = m.cells ∧ m.Fine W := by
  obtain ⟨xs, m, _, _, _, hxl, hf⟩ := DataW.trod_struct Tryz.underlying32 h
  have hc : Tryz.prog.cellsOf 3 = 1 := by kernel_rfl
  have hc2 : Tryz.prog.cellsOf 27 = 2 := by kernel_rfl
  have hc3 : Tryz.prog.cellsOf 30 = 5 := by kernel_rfl
  have hc4 : Tryz.prog.cellsOf 28 = 1 := by kernel_rfl
  match cs, hl with
  | [v0, v1, v2, v3, v4, v5, v6, v7, v8, v9, v10, v11, v12], _ =>
    match xs, hxl with
    | [y0, y1, y2, y3, y4, y5, y6, y7], _ =>
      have h0 := hf 0 _ rfl
      have h1 := hf 1 _ rfl
      have h2 := hf 2 _ rfl
      have h3 := hf 3 _ rfl
      have h4 := hf 4 _ rfl
      have h5 := hf 5 _ rfl
      have h6 := hf 6 _ rfl
      have h7 := hf 7 _ rfl
      simp [hc, hc2, hc3] at h0 h1 h2 h3 h4 h5 h6 h7
      obtain ⟨a0, e0, _, w0⟩ := DataW.trod_int Tryz.underlying3 h0
      obtain ⟨a1, e1, _, w1⟩ := DataW.trod_int Tryz.underlying3 h1
      obtain ⟨a2, e2, _, w2⟩ := DataW.trod_int Tryz.underlying3 h2
      obtain ⟨a3, e3, _, w3⟩ := DataW.trod_int Tryz.underlying3 h3
      obtain ⟨a4, e4, _, w4⟩ := DataW.trod_int Tryz.underlying3 h4
      obtain ⟨a5, e5, _, w5⟩ := DataW.trod_int Tryz.underlying3 h5
      obtain ⟨q, e6⟩ := two_ints rfl h6
      obtain ⟨ys, m2, _, _, _, hyl, hg⟩ := DataW.trod_struct Tryz.underlying30 h7
      match ys, hyl with
      | [u0, u1, u2, u3, u4], _ =>
        have g0 := hg 0 _ rfl
        have g1 := hg 1 _ rfl
        have g2 := hg 2 _ rfl
        have g3 := hg 3 _ rfl
        have g4 := hg 4 _ rfl
        simp [hc, hc4] at g0 g1 g2 g3 g4
        obtain ⟨c0, f0, _, _⟩ := DataW.trod_int Tryz.underlying3 g0
        obtain ⟨c1, f1, _, _⟩ := DataW.trod_int Tryz.underlying3 g1
        obtain ⟨c2, f2, _, _⟩ := DataW.trod_int Tryz.underlying3 g2
        obtain ⟨c3, f3, _, z3⟩ := DataW.trod_int Tryz.underlying3 g3
        obtain ⟨A, cp, l, f4, hl4, hC4, _⟩ := open_txs g4
        simp at e0 e1 e2 e3 e4 e5 e6 f0 f1 f2 f3
        obtain ⟨e6, e7⟩ := e6
        subst e0 e1 e2 e3 e4 e5 e6 e7 f0 f1 f2 f3 f4
        exact ⟨⟨a0, a1, a2, a3, a4, a5, q.f0, q.f1, c0, c1, c2, c3, l, A, cp⟩, rfl, ⟨hl4, hC4, w0, w1, w2, w3, w4, w5, z3⟩⟩
set_option maxRecDepth 100000 in
theorem open_msgV {H : Type} {enc : TypeId × Value → H} {W : World} {base b0 : Nat} {sp : Nat → Bool} {held : Bool} {v : Value} {d : DataW H} {ps : List MemPlace}
    (hv : Value.okWide Tryz.prog W .any b0 32 v) (h : DataW.Trod enc Tryz.prog W base sp held 32 v d ps) : ∃ m : Mg, v = .agg m.cells.toArray ∧ m.Fine W := by
  simp only [Value.okWide, Tryz.underlying32] at hv
  obtain ⟨cs, rfl, h2, _⟩ := hv
  obtain ⟨fuel, hf⟩ := h
  obtain ⟨m, hm, hF⟩ := open_msg (by simpa [Value.cells, cells32] using h2) hf
  refine ⟨m, ?_, hF⟩
  congr 1
  exact Array.toList_inj.1 (by simpa [Value.cells] using hm)
structure Ac where
  (kind n : Int)
  m : Mg
def Ac.cells (a : Ac) : List Value := .int .i64 a.kind :: .int .i64 a.n :: a.m.cells
theorem cells39 : Tryz.prog.cellsOf 39 = 15 := by kernel_rfl
set_option maxRecDepth 100000 in
theorem open_act {H : Type} {enc : TypeId × Value → H} {W : World} {base : Nat} {sp : Nat → Bool} {held : Bool} {n : Nat} {cs : List Value} {x : DataW H × List MemPlace} (hl : cs.length = 15)
    (h : DataW.trod enc Tryz.prog W base sp held n 39 cs = some x) : ∃ a : Ac, cs = a.cells ∧ a.m.Fine W ∧ wf64 a.n := by
  obtain ⟨xs, m, _, _, _, hxl, hf⟩ := DataW.trod_struct Tryz.underlying39 h
  have hc : Tryz.prog.cellsOf 3 = 1 := by kernel_rfl
  have hc2 : Tryz.prog.cellsOf 32 = 13 := by kernel_rfl
  match cs, hl with
  | [v0, v1, v2, v3, v4, v5, v6, v7, v8, v9, v10, v11, v12, v13, v14], _ =>
    match xs, hxl with
    | [y0, y1, y2], _ =>
      have h0 := hf 0 _ rfl
      have h1 := hf 1 _ rfl
      have h2 := hf 2 _ rfl
      simp [hc, hc2] at h0 h1 h2
      obtain ⟨a0, e0, _, w0⟩ := DataW.trod_int Tryz.underlying3 h0
      obtain ⟨a1, e1, _, w1⟩ := DataW.trod_int Tryz.underlying3 h1
      obtain ⟨q, e2, hF⟩ := open_msg rfl h2
      simp at e0 e1
      subst e0 e1
      exact ⟨⟨a0, a1, q⟩, by rw [Ac.cells, ← e2], hF, w1⟩
def ActsR (W : World) (v : Value) (l : List Ac) : Prop := ∃ A c, v = .slice A l.length c ∧ l.length ≤ maxLen ∧ (∀ (j : Nat) (a : Ac), l[j]? = some a → a.m.Fine W ∧ wf64 a.n ∧ ∃ ad, A = some ad ∧ ∀ (i : Nat) (u : Value), a.cells[i]? = some u → W.cell? (ad.add (j * 15 + i)) = some u)
set_option maxRecDepth 100000 in
theorem open_acts {H : Type} {enc : TypeId × Value → H} {W : World} {base b0 : Nat} {sp : Nat → Bool} {held : Bool} {v : Value} {d : DataW H} {ps : List MemPlace}
    (hv : Value.okWide Tryz.prog W .any b0 25 v) (h : DataW.Trod enc Tryz.prog W base sp held 25 v d ps) : ∃ l : List Ac, ActsR W v l := by
  obtain ⟨a, n, c, rfl⟩ := okWide_slice Tryz.underlying25 hv
  obtain ⟨fuel, hf⟩ := h
  rcases Go.Deep.open_slice Tryz.underlying25 hf with ⟨hcs, _⟩ | ⟨ad, len, cap, m, k, D, Pl, hcs, _, hlc, hcm, hm, hxx, hx⟩
  · simp [Value.cells] at hcs
    obtain ⟨rfl, rfl, rfl⟩ := hcs
    exact ⟨[], none, 0, rfl, Nat.zero_le _, fun j a h => by simp at h⟩
  · simp [Value.cells] at hcs
    obtain ⟨rfl, rfl, rfl⟩ := hcs
    have hlm : n ≤ m := by rw [hm]; split <;> omega
    have each : ∀ j, j < n → ∃ a : Ac, a.m.Fine W ∧ wf64 a.n ∧ ∀ (i : Nat) (u : Value), a.cells[i]? = some u → W.cell? (ad.add (j * 15 + i)) = some u := fun j hj => by
      obtain ⟨cs', h1, h2⟩ := hx j (by omega)
      rw [cells39] at h1
      obtain ⟨_, hlen, hcell⟩ := World.cells?_some h1
      obtain ⟨a, hcs, hfine, hwn⟩ := open_act hlen h2
      refine ⟨a, hfine, hwn, fun i u hu => ?_⟩
      have hi : i < 15 := by have := (List.getElem?_eq_some_iff.1 hu).1; simpa [Ac.cells, Mg.cells] using this
      have := hcell i (by omega)
      rw [Go.Deep.add_add] at this
      rw [hcs] at this
      exact this.trans hu
    have hq : ∃ f : Nat → Ac, ∀ j, j < n → (f j).m.Fine W ∧ wf64 (f j).n ∧ ∀ (i : Nat) (u : Value), (f j).cells[i]? = some u → W.cell? (ad.add (j * 15 + i)) = some u :=
      ⟨fun j => if h : j < n then Classical.choose (each j h) else ⟨0, 0, ⟨0, 0, 0, 0, 0, 0, 0, 0, 0, 0, 0, 0, [], none, 0⟩⟩, fun j hj => by simp only [dif_pos hj]; exact Classical.choose_spec (each j hj)⟩
    obtain ⟨f, hf2⟩ := hq
    have hln : ((List.range n).map f).length = n := by simp
    refine ⟨(List.range n).map f, some ad, c, by rw [hln], by rw [hln]; omega, fun j a ha => ?_⟩
    have hj : j < n := by simpa using (List.getElem?_eq_some_iff.1 ha).1
    have haf : a = f j := by simpa [hj] using ha.symm
    subst haf
    obtain ⟨h1, h2, h3⟩ := hf2 j hj
    exact ⟨h1, h2, ad, rfl, h3⟩
structure Cg where
  (me base most : Int)
  st : List Int
  A : Option Addr
  c : Nat
def Cg.cells (g : Cg) : List Value := [.int .i64 g.me, .int .i64 g.base, .int .i64 g.most, .slice g.A g.st.length g.c]
structure Cg.Fine (W : World) (g : Cg) : Prop where
  l : g.st.length ≤ g.c
  C : (Kd.int .i64).C W g.A g.st.length g.st
  wf : wf64 g.me ∧ wf64 g.base ∧ wf64 g.most
theorem cells24 : Tryz.prog.cellsOf 24 = 4 := by kernel_rfl
set_option maxRecDepth 100000 in
theorem open_cfg {H : Type} {enc : TypeId × Value → H} {W : World} {base b0 : Nat} {sp : Nat → Bool} {held : Bool} {v : Value} {d : DataW H} {ps : List MemPlace}
    (hv : Value.okWide Tryz.prog W .any b0 24 v) (h : DataW.Trod enc Tryz.prog W base sp held 24 v d ps) : ∃ g : Cg, v = .agg g.cells.toArray ∧ g.Fine W := by
  simp only [Value.okWide, Tryz.underlying24] at hv
  obtain ⟨cs, rfl, h2, _⟩ := hv
  obtain ⟨fuel, hf⟩ := h
  have hl : (Value.agg cs).cells.toList.length = 4 := by simpa [Value.cells, cells24] using h2
  obtain ⟨ys, hy⟩ : ∃ ys, ys = (Value.agg cs).cells.toList := ⟨_, rfl⟩
  rw [← hy] at hf hl
  have hcy : cs.toList = ys := by rw [hy]; rfl
  obtain ⟨xs, m, _, _, _, hxl, hg⟩ := DataW.trod_struct Tryz.underlying24 hf
  have hc : Tryz.prog.cellsOf 3 = 1 := by kernel_rfl
  have hc2 : Tryz.prog.cellsOf 22 = 1 := by kernel_rfl
  clear hy
  match ys, hl with
  | [v0, v1, v2, v3], _ =>
    match xs, hxl with
    | [y0, y1, y2, y3], _ =>
      have h0 := hg 0 _ rfl
      have h1 := hg 1 _ rfl
      have h2 := hg 2 _ rfl
      have h3 := hg 3 _ rfl
      simp [hc, hc2] at h0 h1 h2 h3
      obtain ⟨a0, e0, _, w0⟩ := DataW.trod_int Tryz.underlying3 h0
      obtain ⟨a1, e1, _, w1⟩ := DataW.trod_int Tryz.underlying3 h1
      obtain ⟨a2, e2, _, w2⟩ := DataW.trod_int Tryz.underlying3 h2
      obtain ⟨l, A, cp, e3, hlc, hC⟩ := open_intsC h3
      simp at e0 e1 e2
      subst e0 e1 e2 e3
      refine ⟨⟨a0, a1, a2, l, A, cp⟩, ?_, ⟨hlc, hC, w0, w1, w2⟩⟩
      congr 1
      exact Array.toList_inj.1 (by rw [hcy]; rfl)
end Go.Np.Tryz
end
