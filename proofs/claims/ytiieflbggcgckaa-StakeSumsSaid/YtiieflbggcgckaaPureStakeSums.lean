/- StakeSums is true of every input: which stakes can be, how much any set has, and how much of all that is; no condition. -/
import Derived.Test.YtiieflbggcgckaaStEv
namespace Go.Proofs.Ytiieflbggcgckaa.Pure
open Go.RowKit Go.Proofs.Ytiieflbggcgckaa.PX Go.Proofs.YtiieflbggcgckaaW.PrintWords Go.Np
theorem StakeSums : neaptidelaw03_StakeSums.Pure := by
  intro st who _ _ _ hw _ _
  refine Ev.rounds (r := true) ?_
  unfold neaptidelaw03_StakeSums.f
  refine alive_st.bind ?_
  simp only [if_true]
  refine (check_ev st).bind ((rcheck_ev st).bind ?_)
  simp only [bne_self_eq_false]
  refine Ev.step (fun k => by rw [neaptidelaw03_StakeSums.j0]) (Ev.ite (fun h => by simp at h) (fun _ => ?_))
  refine (rcheck_ev st).bind (Ev.ite (fun h => ?_) (fun _ => Ev.c rfl))
  have ok : okS st := by
    unfold chk at h
    by_cases h' : okS st
    · exact h'
    · rw [if_neg h'] at h; omega
  refine (rsum_ev ok who hw).bind ?_
  rw [sum_some ok]
  simp only [Option.bind_some, if_true]
  refine (total_ev ok).bind ?_
  simp only [bne_self_eq_false]
  refine Ev.step (fun k => by rw [neaptidelaw03_StakeSums.j1]) (Ev.ite (fun h => by simp at h) (fun _ => ?_))
  refine (most_ev ok who).bind ((rmost_ev ok who hw).bind (Ev.ite (fun _ => ?_) (fun h => by simp at h)))
  refine (some_ev ok who).bind ((rsome_ev ok who hw).bind (Ev.ite (fun _ => ?_) (fun h => by simp at h)))
  exact (few_ev ok who).bind ((rfew_ev ok who hw).bind (Ev.c (by simp)))
end Go.Proofs.Ytiieflbggcgckaa.Pure
