/- The plain law behind the statement IdsExact: what the printed functions tell, put together. No program in sight. -/
import Derived.Test.YtblojnajchpemaaFRef
namespace Go.Proofs.Ytblojnajchpemaa.Pure
set_option linter.unusedVariables false
set_option linter.unusedSimpArgs false
open Go Go.RowKit Go.Proofs.Ytblojnajchpemaa.PA Go.Proofs.Ytblojnajchpemaa.F Go.Proofs.YtblojnajchpemaaW.PrintWords Go.Proofs.YtblojnajchpemaaW.PrintLast Go.Proofs.YtblojnajchpemaaW.PrintMore

theorem exact_end (id : Int) : Ev (fun k => woodcutlaw04_IdsExact.j3 k id (if IsId id then text id.toNat else ⟨#[]⟩) (if IsId id then 0 else 1) false) true := by
  by_cases h : IsId id
  · obtain ⟨n, rfl⟩ := Int.eq_ofNat_of_zero_le (by unfold IsId at h; omega : 0 ≤ id)
    have ht := idtext_f n (by unfold IsId at h; omega)
    simp only [h, if_true, Int.toNat_natCast]
    refine Ev.step (f := fun k => _) (fun k => by simp only [woodcutlaw04_IdsExact.j3, Bool.false_eq_true, if_false, id_f, check_f, h, decide_true, if_true, Option.bind_some]; rfl) ?_
    refine Ev.bind ht ?_
    simp only [if_true]
    exact Ev.bind ids_wakes (Ev.now _)
  · simp only [h, if_false]
    refine Ev.step (f := fun k => _) (fun k => by simp only [woodcutlaw04_IdsExact.j3, Bool.false_eq_true, if_false, id_f, check_f, h, decide_false, if_true, Option.bind_some]; rfl) ?_
    have e0 : (⟨#[]⟩ : ByteArray).toList = ([] : List UInt8) := by decide +kernel
    simp only [e0, if_true]
    exact Ev.bind ids_wakes (Ev.now _)
theorem exact_has (id : Int) (L : List Int) (hlen : L.length ≤ 140737488355328) (m n : Int) (f : Int) (ok : Bool) (hag : (ok = true ∧ n = m ∧ f = 0) ∨ (ok = false ∧ n = 0 ∧ f = 1 ∧ m = 0)) :
    ∀ (d i : Nat), i + d = L.length → ∀ b : Bool, b = decide (id ∈ L.take i) →
    Ev (fun k => woodcutlaw04_IdsExact.l0 k id L (if IsId id then text id.toNat else ⟨#[]⟩) (if IsId id then 0 else 1) n f m ok b (i : Int)) true := by
  intro d
  induction d with
  | zero =>
    intro i hi b hb
    rw [List.take_of_length_le (by omega)] at hb
    have c1 : ¬ (i : Int) < (L.length : Int) := by omega
    have hh := has_f L id hlen
    rw [← hb] at hh
    have hend := exact_end id
    have bb : (b != b) = false := by cases b <;> rfl
    rcases hag with ⟨rfl, rfl, rfl⟩ | ⟨rfl, rfl, rfl, rfl⟩
    · refine Ev.step (f := fun k => _) (fun k => by simp only [woodcutlaw04_IdsExact.l0]; rw [if_neg c1]) ?_
      have e : (true != ((0 : Int) == 0)) = false := by decide
      simp only [e, Bool.false_eq_true, if_false, if_true]
      refine Ev.bind hh ?_
      simp only [bb]
      exact hend
    · refine Ev.step (f := fun k => _) (fun k => by simp only [woodcutlaw04_IdsExact.l0]; rw [if_neg c1]) ?_
      have e : (false != ((1 : Int) == 0)) = false := by decide
      simp only [e, Bool.false_eq_true, if_false, if_true]
      refine Ev.bind hh ?_
      simp only [bb]
      exact hend
  | succ d ih =>
    intro i hi b hb
    have hlt : i < L.length := by omega
    have c1 : (i : Int) < (L.length : Int) := by omega
    have c2 : (0 : Int) ≤ (i : Int) := by omega
    have e1 : i + 1 + d = L.length := by omega
    have hw := idx_up i L.length hlen hlt
    have ht : L.take (i + 1) = L.take i ++ [L[i]] := List.take_succ_eq_append_getElem hlt
    cases hbb : b with
    | true =>
      have hin : id ∈ L.take i := by rw [hbb] at hb; exact of_decide_eq_true hb.symm
      refine Ev.step (fun k => ?_) (ih (i + 1) e1 true (by symm; rw [decide_eq_true_eq, ht]; exact List.mem_append_left _ hin))
      simp only [woodcutlaw04_IdsExact.l0]
      rw [if_pos c1, if_pos trivial, hw]
    | false =>
      have hni : id ∉ L.take i := by rw [hbb] at hb; exact of_decide_eq_false hb.symm
      refine Ev.step (fun k => ?_) (ih (i + 1) e1 (L[i] == id) (by
        rw [Bool.eq_iff_iff, beq_iff_eq, decide_eq_true_eq, ht, List.mem_append, List.mem_singleton]
        exact ⟨fun h => .inr h.symm, fun h => (h.resolve_left hni).symm⟩))
      simp only [woodcutlaw04_IdsExact.l0]
      rw [if_pos c1, if_neg (by decide), if_pos c2, hw, rd_get L i hlt]
theorem IdsExact : woodcutlaw04_IdsExact.Pure := by
  intro id s L hid hs hm hy hw
  have hlen : L.length ≤ 140737488355328 := by omega
  refine Ev.rounds (g := fun k => woodcutlaw04_IdsExact.f k id s L) ?_
  have jt : Ev (fun k => woodcutlaw04_IdsExact.j0 k id s L true) true := Ev.step (f := fun _ => some true) (fun k => by simp only [woodcutlaw04_IdsExact.j0, if_true]) (Ev.now _)
  unfold woodcutlaw04_IdsExact.f
  by_cases h0 : (s.size : Int) > 100
  · simp only [h0, if_true]
    exact jt
  · simp only [h0, if_false]
    by_cases h1 : (L.length : Int) > 100
    · simp only [h1, decide_true]
      exact jt
    · simp only [h1, decide_false]
      have htext : Ev (fun k => ids_Text.f k id) ((if IsId id then text id.toNat else ⟨#[]⟩), (if IsId id then 0 else 1)) := by
        by_cases h : IsId id
        · obtain ⟨n, rfl⟩ := Int.eq_ofNat_of_zero_le (by unfold IsId at h; omega : 0 ≤ id)
          simp only [h, if_true, Int.toNat_natCast]
          exact text_yes n h
        · simp only [h, if_false]
          exact text_no id h
      refine Ev.step (f := fun k => _) (fun k => by simp only [woodcutlaw04_IdsExact.j0, Bool.false_eq_true, if_false]; rfl) ?_
      refine Ev.bind htext (Ev.bind (parse_f s) (Ev.bind (refparse_f s) ?_))
      have loop0 := fun m n f ok hag => exact_has id L hlen m n f ok hag L.length 0 (by omega) false (by simp)
      rcases parse_agree (bytesOf s) with ⟨h2, h3⟩ | ⟨h2, h3⟩
      · rw [h3]
        simp only [h2, if_true]
        refine Ev.step (fun k => ?_) (loop0 (refparsed (bytesOf s)).1 (refparsed (bytesOf s)).1 0 true (.inl ⟨rfl, rfl, rfl⟩))
        simp only [woodcutlaw04_IdsExact.j1]
        rfl
      · rw [h3]
        simp only [h2, Bool.false_eq_true, if_false]
        refine Ev.step (fun k => ?_) (loop0 0 0 1 false (.inr ⟨rfl, rfl, rfl, rfl⟩))
        simp only [woodcutlaw04_IdsExact.j1]
        rfl

end Go.Proofs.Ytblojnajchpemaa.Pure
