/- The plain law behind the statement CrcMore: what the printed functions tell, put together. No program in sight. -/
import Derived.Test.YtpaoboadccnnmaaPAx6
import Derived.Test.YtpaoboadccnnmaaFGet
namespace Go.Proofs.Ytpaoboadccnnmaa.Pure
open Go Go.RowKit Go.Proofs.Ytpaoboadccnnmaa.PA Go.Proofs.Ytpaoboadccnnmaa.F Go.Proofs.YtpaoboadccnnmaaW.PrintWords Go.Proofs.YtpaoboadccnnmaaW.PrintLast
open Go.Proofs.Ytpaoboadccnnmaa.MC (more)

theorem nats_append (a b : List Int) : nats (a ++ b) = nats a ++ nats b := by simp [nats]
theorem more_join (a : List Int) (h : Byt a) (L : List Int) (hL : Byt L) (hlen : L.length ≤ 140737488355328) (s : Nat) (hs : s < 4294967296) :
    Ev (fun k => crc_More.f k ((more s (nats a) : Nat) : Int) L) ((more s (nats (a ++ L)) : Nat) : Int) := by
  rw [nats_append, MC.more_append]
  exact crc_more_nat _ (more_lt32 s hs a h) L hL hlen
theorem CrcMore : woodcutlaw02_CrcMore.Pure := by
  intro a b c ha0 ha1 ha2 hb0 hb1 hb2 hc0 hc1 hc2
  have ha := byt_of_wf ha2
  have hb := byt_of_wf hb2
  have hc := byt_of_wf hc2
  have hta := twin a (by omega)
  refine Ev.rounds (g := fun k => woodcutlaw02_CrcMore.f k a b c) ?_
  have jt : Ev (fun k => woodcutlaw02_CrcMore.j0 k a b c true) true := Ev.step (f := fun _ => some true) (fun k => by simp only [woodcutlaw02_CrcMore.j0, if_true]) (Ev.now _)
  unfold woodcutlaw02_CrcMore.f
  by_cases h0 : (a.length : Int) > 600
  · simp only [h0, if_true]
    exact jt
  · by_cases h1 : (b.length : Int) > 600
    · simp only [h0, h1, if_true, if_false]
      exact jt
    · simp only [h0, h1, if_false]
      by_cases h2 : (c.length : Int) > 600
      · simp only [h2, decide_true]
        exact jt
      · simp only [h2, decide_false]
        have hab : (a ++ b).length ≤ 140737488355328 := by rw [List.length_append]; omega
        have habc : (a ++ b ++ c).length ≤ 140737488355328 := by rw [List.length_append, List.length_append]; omega
        have g1 : a.length + b.length < 140737488355328 := by omega
        have g2 : (a ++ b).length + c.length < 140737488355328 := by rw [List.length_append]; omega
        have bab := Byt.append ha hb
        have babc := Byt.append bab hc
        have hs0 := more_lt32 0 (by decide) (a ++ b ++ c) babc
        have hs1 : ((more 0 (nats (a ++ b ++ c)) : Nat) : Int) ≥ 0 := by omega
        have hs2 : ((more 0 (nats (a ++ b ++ c)) : Nat) : Int) < 4294967296 := by omega
        have hnil := crc_more_nat _ hs0 [] (fun x hx => by cases hx) (by simp)
        rw [show nats [] = [] from rfl, MC.more_nil] at hnil
        refine Ev.step (f := fun k => _) (fun k => by simp only [woodcutlaw02_CrcMore.j0, Bool.false_eq_true, if_false, hta, Option.bind_some, g1, g2, if_true]; rfl) ?_
        refine Ev.bind (crc_sum _ babc habc) (Ev.bind (crc_sum a ha (by omega)) ?_)
        refine Ev.bind (more_join a ha b hb (by omega) 0 (by decide)) ?_
        refine Ev.bind (more_join (a ++ b) bab c hc (by omega) 0 (by decide)) ?_
        simp only [if_true]
        refine Ev.bind (crc_sum _ bab hab) ?_
        refine Ev.bind (more_join (a ++ b) bab c hc (by omega) 0 (by decide)) ?_
        simp only [if_true]
        refine Ev.bind hnil ?_
        simp only [hs1, hs2, if_true]
        exact Ev.bind crc_wakes (Ev.now _)

end Go.Proofs.Ytpaoboadccnnmaa.Pure
