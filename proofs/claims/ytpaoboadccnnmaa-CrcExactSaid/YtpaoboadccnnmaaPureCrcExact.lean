/- The plain law behind the statement CrcExact: what the printed functions tell, put together. No program in sight. -/
import Derived.Test.YtpaoboadccnnmaaPAx5
import Derived.Test.YtpaoboadccnnmaaFGet
namespace Go.Proofs.Ytpaoboadccnnmaa.Pure
open Go Go.RowKit Go.Proofs.Ytpaoboadccnnmaa.PA Go.Proofs.Ytpaoboadccnnmaa.F Go.Proofs.YtpaoboadccnnmaaW.PrintWords Go.Proofs.YtpaoboadccnnmaaW.PrintLast

theorem CrcExact : woodcutlaw02_CrcExact.Pure := by
  intro l a hm hy hw ha
  have hl := byt_of_wf hw
  have hlen : l.length ≤ 140737488355328 := by omega
  have ht := twin l (by omega)
  refine Ev.rounds (g := fun k => woodcutlaw02_CrcExact.f k l a) ?_
  unfold woodcutlaw02_CrcExact.f
  by_cases hbig : (l.length : Int) > 600
  · simp only [hbig, if_true]
    exact Ev.now _
  · simp only [hbig, if_false, ht, Option.bind_some]
    refine Ev.bind (crc_sum l hl hlen) (Ev.bind (ref_sum l hl hlen) ?_)
    simp only [if_true]
    refine Ev.bind (crc_more a l hl hlen) (Ev.bind (ref_more a l hl hlen) ?_)
    simp only [if_true]
    refine Ev.bind (crc_good l hl hlen) (Ev.bind (ref_good l hl hlen) ?_)
    simp only [beq_self_eq_true, if_true]
    refine Ev.bind (same l l hlen) ?_
    simp only [decide_true, if_true]
    exact Ev.bind crc_wakes (Ev.now _)

end Go.Proofs.Ytpaoboadccnnmaa.Pure
