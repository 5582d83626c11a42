/- A select that does not wait, of one case, in one goroutine: laws for the walk. -/
import Derived.Test.YtiieflbggcgckaaNpA
import Derived.Conc.LoneSelectN
import Derived.Conc.LoneSelect
namespace Go.Np
open Go.RowKit Go.Conc

section
variable {P : Program} {Q : Exit → Act → World → Prop} {a : Act} {w w1 : World} {o : Oper} {rest : List Oper} {id : Nat}

/-- From one machine step over the first operation. -/
theorem wp_region_first (o : Oper) (rest : List Oper) (v : Value)
    (hs : ∀ (b : Frame) (k : List Item) (cs : List Frame) (r : List Nat), step P (lone (b.at a (.inRegion (o :: rest).toArray (0 :: r) :: k)) cs w) = .next (lone ((b.at a (.inRegion (o :: rest).toArray (0 :: r) :: k)).finish v) cs w1))
    (h : wpList P (o :: rest).toArray Q rest (a.put o.dst v) w1) : (Code.region id (o :: rest).toArray false).wp P Q a w := by
  intro b k cs
  have e1 : List.range (o :: rest).toArray.size = 0 :: List.range' 1 rest.length := by
    simp [List.range_eq_range', List.range'_succ]
  have h' : wpOps P (o :: rest).toArray Q (List.range' 1 rest.length) (a.put o.dst v) w1 := by
    rw [wpOps_eq_wpList rest 1 (fun j => by simp [Nat.add_comm 1 j])]
    exact h
  obtain ⟨e, a', w', hq, harr⟩ := wp_ops _ _ _ h' b k cs
  refine ⟨e, a', w', hq, .of_steps (.head step_region ?_) harr⟩
  rw [e1]
  refine .one ?_
  rw [hs, Frame.finish_at]
  rfl
end

section
variable {P : Program} {Q : Exit → Act → World → Prop} {a : Act} {w : World} {id : Nat}
theorem stepG_comm {P : Program} {ops : Array Oper} {b : Frame} {a : Act} {k : List Item} {cs : List Frame} {w : World} {i : Nat} {r : List Nat} {o : Oper} (ho : ops[i]? = some o) (hg : o.guard = none) {cases_ : Array CommCase} {bl : Bool} {sh : CommShape}
    (he : (execOp a.eval o).run P w = .ok (.comm cases_ bl sh) w) :
    ∃ es, stepG P true (G (b.at a (.inRegion ops (i :: r) :: k)) cs) w = .comm (G (b.at a (.inRegion ops (i :: r) :: k)) cs) cases_ bl sh w es := by
  have hg := stepG_op (P := P) (b := b) (a := a) (k := k) (cs := cs) (w := w) (rest := r) ho (by simp [Region.wanted, hg])
  unfold G
  rw [hg]
  simp only [stepG.apply, Sem.runT_eq, he]
  exact ⟨_, rfl⟩

/-- The select's operation, run. -/
theorem run_select_send {o : Oper} {co vo : Operand} {et : TypeId} (hop : o.op = Op.select #[{ chan := co, send := some vo, elem := et }] false) {z : Value} (hz : (zeroValue et).run P w = .ok z w) :
    (execOp a.eval o).run P w = .ok (.comm #[{ chan := a.eval co, send := some (a.eval vo), zero := z }] false .select) w := by
  simp [execOp, hop, hz, Result.andThen]
theorem run_select_recv {o : Oper} {co : Operand} {et : TypeId} (hop : o.op = Op.select #[{ chan := co, send := none, elem := et }] false) {z : Value} (hz : (zeroValue et).run P w = .ok z w) :
    (execOp a.eval o).run P w = .ok (.comm #[{ chan := a.eval co, send := none, zero := z }] false .select) w := by
  simp [execOp, hop, hz, Result.andThen]

section
variable {o : Oper} {rest : List Oper} {co vo : Operand} {et : TypeId} {z : Value} {c cap s r : Nat} {buf : Array Value} {tm closed : Bool}
theorem wp_select_send (hg : o.guard = none) (hop : o.op = Op.select #[{ chan := co, send := some vo, elem := et }] false) (hz : (zeroValue et).run P w = .ok z w) (hc : a.eval co = .chan (some c)) (v : Value) (hv : a.eval vo = v)
    (hb : w.heap[c]? = some (.chan cap buf false s r tm)) (hroom : buf.size < cap)
    (h : wpList P (o :: rest).toArray Q rest (a.put o.dst (.tuple #[goInt 0, .bool false])) (w.setChan c cap (buf.push v) false (s + 1) r tm)) : (Code.region id (o :: rest).toArray false).wp P Q a w := by
  refine wp_region_first o rest _ (fun b k cs r' => ?_) h
  obtain ⟨es, he⟩ := stepG_comm (ops := (o :: rest).toArray) (b := b) (k := k) (cs := cs) (i := 0) (r := r') (by simp) hg (run_select_send hop hz)
  rw [hc, hv] at he
  exact step_lone_select_send_room (z' := z) he hb hroom
theorem wp_select_recv (hg : o.guard = none) (hop : o.op = Op.select #[{ chan := co, send := none, elem := et }] false) (hz : (zeroValue et).run P w = .ok z w) (hc : a.eval co = .chan (some c))
    (hb : w.heap[c]? = some (.chan cap buf closed s r tm)) (hsome : 0 < buf.size)
    (h : wpList P (o :: rest).toArray Q rest (a.put o.dst (.tuple #[goInt 0, .bool true, buf.getD 0 undef])) (w.setChan c cap (buf.extract 1 buf.size) closed s (r + 1) tm)) : (Code.region id (o :: rest).toArray false).wp P Q a w := by
  refine wp_region_first o rest _ (fun b k cs r' => ?_) h
  obtain ⟨es, he⟩ := stepG_comm (ops := (o :: rest).toArray) (b := b) (k := k) (cs := cs) (i := 0) (r := r') (by simp) hg (run_select_recv hop hz)
  rw [hc] at he
  exact step_lone_select_recv_buf (z := z) he hb hsome
theorem wp_select_none (hg : o.guard = none) (hop : o.op = Op.select #[{ chan := co, send := none, elem := et }] false) (hz : (zeroValue et).run P w = .ok z w) (hc : a.eval co = .chan (some c))
    (hb : w.heap[c]? = some (.chan cap #[] false s r tm))
    (h : wpList P (o :: rest).toArray Q rest (a.put o.dst (.tuple #[goInt (-1), .bool false, z])) w) : (Code.region id (o :: rest).toArray false).wp P Q a w := by
  refine wp_region_first o rest _ (fun b k cs r' => ?_) h
  obtain ⟨es, he⟩ := stepG_comm (ops := (o :: rest).toArray) (b := b) (k := k) (cs := cs) (i := 0) (r := r') (by simp) hg (run_select_recv hop hz)
  rw [hc] at he
  exact step_lone_select_default (z := z) he hb
end
end
end Go.Np
