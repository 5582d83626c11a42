/- What CheckNames needs. -/
import Derived.Test.YtgfiglcmhlbjjaaQCheckNamesTallyV
set_option linter.unusedVariables false
set_option linter.unusedSimpArgs false
namespace Go.Np.Try
open Go.RowKit Go.Proofs.Ytgfiglcmhlbjjaa.PX Go.Proofs.YtgfiglcmhlbjjaaW.PrintWords
structure Am where
  (too kd fr ix vw vl pr : Int)
deriving DecidableEq
structure Co where
  (me base most : Int)
  st : List Int
  decs : List Int
  (view step tip : Int)
  m : List S41
  props : List (Int × (Int × Int))
  said : List (Int × Int)
  (lock valid : Int × Int)
  out : List Am
namespace Co
def idx (c : Co) : Int := c.decs.length
def send (c : Co) (a : Am) : Co := { c with out := c.out ++ [a] }
def voteM (c : Co) (k x : Int) : Am := ⟨-1, k, c.me, c.idx, c.view, x, 0⟩
def cast (c : Co) (k x : Int) : Co :=
  if addR c.st.length c.m ⟨k, c.view, c.me, x⟩ = true then ({ c with m := c.m ++ [(⟨k, c.view, c.me, x⟩ : S41)] } : Co).send (c.voteM k x) else c
def toS (c : Co) (s : Int) : Co := { c with step := s }
end Co
def leaderN (index view nodes : Int) : Int :=
  if index < 0 ∨ 1000 < index ∨ view < 0 ∨ 1000 < view ∨ nodes < 1 ∨ 7 < nodes then 0 else (index + view).tmod nodes
namespace Co
def leads (c : Co) (node v : Int) : Bool := decide (leaderN c.idx v c.st.length = node)
def offer (c : Co) : Am := ⟨-1, 3, c.me, c.idx, c.view, ((alook c.props c.view).getD (0, 0)).1, ((alook c.props c.view).getD (0, 0)).2⟩
def bid (c : Co) : Int × Int := if 0 ≤ c.valid.2 then c.valid else (c.tip, -1)
def enter (c : Co) (v : Int) : Co :=
  if (alook c.props v).isSome = true ∨ c.leads c.me v = false then { c with view := v, step := 1 }
  else
    let d : Co := { c with view := v, step := 1, props := aput c.props v c.bid }
    d.send d.offer
def saidBy (c : Co) (v : Int) : List Int := (c.said.filter fun q => decide (q.2 = v)).map (·.1)
def agreed (c : Co) : Int × Bool :=
  if (comR c.st c.m).2 = true then ((comR c.st c.m).1, true)
  else
    match ((c.said.map (·.2)).mergeSort fun x y => decide (x ≤ y)).find? (fun v => someB c.st (c.saidBy v)) with
    | some v => (v, true)
    | none => (0, false)
def judge (c : Co) (p : Int × Int) : Int × Bool :=
  if p.2 = -1 then (if c.lock.2 = -1 ∨ c.lock.1 = p.1 then (p.1, true) else (-1, true))
  else if (mostR c.st c.m 4 p.2).2 = true ∧ (mostR c.st c.m 4 p.2).1 = p.1 then (if c.lock.2 ≤ p.2 ∨ c.lock.1 = p.1 then (p.1, true) else (-1, true))
  else (0, false)
def rest (c : Co) : Co := { c with view := 0, step := 0, m := [], props := [], said := [], lock := (0, -1), valid := (0, -1) }
def decide1 (c : Co) (v : Int) : Co := ({ c.send ⟨-1, 6, c.me, c.idx, 0, v, 0⟩ with decs := c.decs ++ [v] } : Co).rest
end Co
def knowsB (known : List Int) (v : Int) : Bool := decide (v = 0) || known.contains v
namespace Co
def next (known : List Int) (c : Co) : Co × Bool :=
  if 1000 < c.idx then (c, false)
  else if c.agreed.2 = true then (c.decide1 c.agreed.1, true)
  else if c.step = 0 then (c, false)
  else if c.view < ahR c.st c.m c.view then (c.enter (ahR c.st c.m c.view), true)
  else if c.step = 1 then
    match alook c.props c.view with
    | none => (c, false)
    | some p =>
      if knowsB known p.1 = false ∨ (c.judge p).2 = false then (c, false)
      else ((c.cast 4 (c.judge p).1).toS 2, true)
  else if (mostR c.st c.m 4 c.view).2 = false ∨ ((mostR c.st c.m 4 c.view).1 ≠ -1 ∧ knowsB known (mostR c.st c.m 4 c.view).1 = false) then (c, false)
  else if c.step = 2 then
    let p := (mostR c.st c.m 4 c.view).1
    let d : Co := if p = -1 then c else { c with lock := (p, c.view), valid := (p, c.view) }
    ((d.cast 5 p).toS 3, true)
  else if (mostR c.st c.m 4 c.view).1 ≠ -1 ∧ c.valid.2 < c.view then ({ c with valid := ((mostR c.st c.m 4 c.view).1, c.view) }, false)
  else (c, false)
inductive Settles (known : List Int) : Co → Co → Prop
  | stop {c c' : Co} : c.next known = (c', false) → Settles known c c'
  | go {c c1 c' : Co} : c.next known = (c1, true) → Settles known c1 c' → Settles known c c'
def addV (c : Co) (k v f x : Int) : Co := { c with m := stepR c.st.length c.m ⟨k, v, f, x⟩ }
def take (c : Co) (a : Am) : Co :=
  if a.kd = 4 ∨ a.kd = 5 then c.addV a.kd a.vw a.fr a.vl
  else if a.kd = 3 then (if (alook c.props a.vw).isNone = true ∧ c.leads a.fr a.vw = true then { c with props := aput c.props a.vw (a.vl, a.pr) } else c)
  else if (alook c.said a.fr).isNone = true then { c with said := aput c.said a.fr a.vl } else c
def flush (c : Co) : Co := { c with out := [] }
def lapse (c : Co) : Co :=
  if c.step = 1 then (c.cast 4 (-1)).toS 2
  else if c.step = 2 then (c.cast 5 (-1)).toS 3
  else if c.step = 3 then (if c.view < 1000 then (c.toS 3).enter (c.view + 1) else c.toS 3)
  else c
def votesM (c : Co) (k : Int) : List Am := match ofR c.m k c.view c.me with | some v => [c.voteM k v] | none => []
def again0 (c : Co) : List Am := (if (alook c.props c.view).isSome = true ∧ c.leads c.me c.view = true then [c.offer] else []) ++ c.votesM 4 ++ c.votesM 5
def sameM (a b : Am) : Bool := decide (a.kd = b.kd) && decide (a.fr = b.fr) && decide (a.ix = b.ix) && decide (a.vw = b.vw) && decide (a.vl = b.vl) && decide (a.pr = b.pr)
def again (c : Co) : Co := { c with out := c.out ++ c.again0.filter fun a => !(c.out.any fun b => sameM b a) }
def tick1 (c : Co) (b : Bool) : Co := if c.step = 0 then c.enter 0 else if b = true then c.lapse else c
def Ticks (known : List Int) (tip : Int) (c : Co) (c' : Co) (l : List Am) : Prop :=
  if 1000 < c.idx then c' = { c with tip := tip } ∧ l = []
  else ∃ b d, Settles known (({ c with tip := tip } : Co).tick1 b) d ∧ c' = (if d.step = 0 then d else d.again).flush ∧ l = (if d.step = 0 then d else d.again).out
def new (me : Int) (st : List Int) (base most : Int) : Co := ⟨me, base, most, st, [], 0, 0, 0, [], [], [], (0, -1), (0, -1), []⟩
def mu (c : Co) : Nat := (1001 - c.decs.length) * 10000 + (1001 - c.view).toNat * 4 + (4 - c.step).toNat
structure Ok (c : Co) : Prop where
  st : okS c.st
  me : 0 ≤ c.me ∧ c.me < c.st.length
  view : 0 ≤ c.view ∧ c.view ≤ 1000
  step : 0 ≤ c.step ∧ c.step ≤ 3
  votes : Good c.st.length c.m
end Co
end Go.Np.Try
