/- StakeGrows is true of every input: a set with more in it has no less; no condition. -/
import Derived.Test.YtiieflbggcgckaaStEv
import Derived.Test.YtiieflbggcgckaaPXx7
namespace Go.Proofs.Ytiieflbggcgckaa.Pure
open Go.RowKit Go.Proofs.Ytiieflbggcgckaa.PX Go.Proofs.YtiieflbggcgckaaW.PrintWords Go.Np
theorem StakeGrows : neaptidelaw03_StakeGrows.Pure := by
  intro st who more _ _ _ hw _ _ hm _ _
  refine Ev.rounds (r := true) ?_
  unfold neaptidelaw03_StakeGrows.f
  refine alive_st.bind ?_
  simp only [if_true]
  have out : Ev (fun k => neaptidelaw03_StakeGrows.j0 k st who more true) true := Ev.step (fun k => by rw [neaptidelaw03_StakeGrows.j0]) (Ev.ite (fun _ => Ev.c rfl) (fun h => by simp at h))
  refine (check_ev st).bind (Ev.ite (fun h => ?_) (fun _ => out))
  have ok : okS st := by
    unfold chk at h
    by_cases h' : okS st
    · exact h'
    · rw [if_neg h'] at h; omega
  refine Ev.ite (fun _ => out) (fun h1 => ?_)
  refine Ev.step (fun k => by rw [neaptidelaw03_StakeGrows.j0]) (Ev.ite (fun _ => Ev.c rfl) (fun h2 => ?_))
  have h2' : more.length ≤ 1000 := by simp at h2; omega
  simp only [Option.bind_some, List.length_nil, List.nil_append]
  refine Ev.ite (fun _ => Ev.ite (fun _ => ?_) (fun h => by omega)) (fun h => by omega)
  rw [sum_some ok, sum_some ok]
  simp only [Option.bind_some]
  have hmono : wl st who ≤ wl st (who ++ more) := ws_mono ok.2.2 (fun x hx => by simp at hx ⊢; exact .inl hx) 0
  have b1 := wl_bounds ok (who ++ more)
  refine Ev.ite (fun h => by omega) (fun _ => (total_ev ok).bind ?_)
  refine Ev.step (fun k => by rw [neaptidelaw03_StakeGrows.j1]) (Ev.ite (fun h => by simp at h; omega) (fun _ => ?_))
  have few2 : Ev (fun n => (stake_Few.f n st (who ++ more)).bind fun t => if t = true then (stake_Few.f n st who).bind fun t => some t else some true) true :=
    (few_ev ok (who ++ more)).bind (Ev.ite (fun h => (few_ev ok who).bind (Ev.c (by simp at h ⊢; omega))) (fun _ => Ev.c rfl))
  have some2 : Ev (fun n => (stake_Some.f n st who).bind fun t => if t = true then (stake_Some.f n st (who ++ more)).bind fun t => if t = true then (stake_Few.f n st (who ++ more)).bind fun t => if t = true then (stake_Few.f n st who).bind fun t => some t else some true else some false else (stake_Few.f n st (who ++ more)).bind fun t => if t = true then (stake_Few.f n st who).bind fun t => some t else some true) true :=
    (some_ev ok who).bind (Ev.ite (fun h => (some_ev ok (who ++ more)).bind (Ev.ite (fun _ => few2) (fun h' => by simp at h h'; omega))) (fun _ => few2))
  exact (most_ev ok who).bind (Ev.ite (fun h => (most_ev ok (who ++ more)).bind (Ev.ite (fun _ => some2) (fun h' => by simp at h h'; omega))) (fun _ => some2))
end Go.Proofs.Ytiieflbggcgckaa.Pure
