/- The plain law behind the statement LeParts: what the printed functions tell, put together. No program in sight. -/
import Derived.Test.YtpaoboadccnnmaaPAx12
import Derived.Test.YtpaoboadccnnmaaFLe
import Derived.Test.YtpaoboadccnnmaaFUse
namespace Go.Proofs.Ytpaoboadccnnmaa.Pure
set_option linter.unusedVariables false
set_option linter.unusedSimpArgs false
open Go Go.RowKit Go.Proofs.Ytpaoboadccnnmaa.PA Go.Proofs.Ytpaoboadccnnmaa.F Go.Proofs.YtpaoboadccnnmaaW.PrintWords Go.Proofs.YtpaoboadccnnmaaW.PrintLast Go.Proofs.YtpaoboadccnnmaaW.PrintMore

theorem LeParts : woodcutlaw01_LeParts.Pure := by
  intro a0 a1 a2 h0 h1 h2
  obtain ⟨a, ha, ea⟩ := umod a0 4294967296 (by decide) (by decide)
  obtain ⟨b, hb, eb⟩ := umod a1 1073741824 (by decide) (by decide)
  obtain ⟨n, hn, en⟩ := umod a2 256 (by decide) (by decide)
  obtain ⟨S, hS⟩ : ∃ S : Nat, S = a + 256 ^ 4 * b := ⟨_, rfl⟩
  have hSlt : S ≤ 4611686018427387903 := by omega
  have w1 : wrap64 ((b : Int) * 4294967296) = (b : Int) * 4294967296 := wrap_in (by omega) (by omega)
  have w2 : wrap64 ((a : Int) + (b : Int) * 4294967296) = (S : Int) := by rw [wrap_in (by omega) (by omega)]; omega
  have z9 : List.replicate 9 (0 : Int) = [] ++ List.replicate 9 (0 : Int) := rfl
  have z8 : List.replicate 8 (0 : Int) = [] ++ List.replicate 8 (0 : Int) := rfl
  have p1 : Ev (fun k => le_Put.f k (List.replicate 9 0) 0 4 (a : Int)) (digs 4 a ++ List.replicate 5 0, 0) := by
    have h := F.put_at [] (List.replicate 9 0) 4 a (by simp) (by unfold Right; simp) (by unfold Fits; omega) (by simp)
    exact h
  have p2 : Ev (fun k => le_Put.f k (digs 4 a ++ List.replicate 5 0) 4 4 (b : Int)) (digs 4 a ++ digs 4 b ++ List.replicate 1 0, 0) := by
    have h := F.put_at (digs 4 a) (List.replicate 5 0) 4 b (by simp [digs_length]) (by unfold Right; simp) (by unfold Fits; omega) (by simp)
    rw [digs_length] at h
    exact h
  have p3 : Ev (fun k => le_Put.f k (digs 4 a ++ digs 4 b ++ List.replicate 1 0) 8 1 (n : Int)) (digs 4 a ++ digs 4 b ++ digs 1 n, 0) := by
    have h := F.put_at (digs 4 a ++ digs 4 b) (List.replicate 1 0) 1 n (by simp [digs_length]) (by unfold Right; simp) (by unfold Fits; omega) (by simp)
    rw [List.length_append, digs_length, digs_length, show List.drop 1 (List.replicate 1 (0 : Int)) = [] from rfl, List.append_nil] at h
    exact h
  have p4 : Ev (fun k => le_Put.f k (List.replicate 8 0) 0 8 (S : Int)) (digs 8 S, 0) := by
    have h := F.put_at [] (List.replicate 8 0) 8 S (by simp) (by unfold Right; simp) (by unfold Fits; omega) (by simp)
    rw [show List.drop 8 (List.replicate 8 (0 : Int)) = [] from rfl, List.append_nil] at h
    exact h
  have hd : digs 4 a ++ digs 4 b = digs 8 S := by
    have h := digs_join 4 4 a b (by omega)
    rw [hS]
    exact h.symm
  have hx : Byt (digs 4 a ++ digs 4 b ++ digs 1 n) := ((digs_byt 4 a).append (digs_byt 4 b)).append (digs_byt 1 n)
  have hxl : (digs 4 a ++ digs 4 b ++ digs 1 n).length = 9 := by simp [digs_length]
  have g1 : Ev (fun k => le_Get.f k (digs 4 a ++ digs 4 b ++ digs 1 n) 0 8) ((S : Int), 0) := by
    have h := F.get_at [] (digs 8 S) (digs 1 n) 8 (by rw [digs_length]) (by unfold Right; simp) (digs_byt 8 S) (by intro x hx; cases hx) (digs_byt 1 n) (by simp [digs_length])
    rw [bv_digs 8 S (by omega), if_neg (by omega)] at h
    rw [hd]
    exact h
  have g2 : Ev (fun k => le_Get.f k (digs 4 a ++ digs 4 b ++ digs 1 n) 8 1) ((n : Int), 0) := by
    have h := F.get_at (digs 4 a ++ digs 4 b) (digs 1 n) [] 1 (by rw [digs_length]) (by unfold Right; simp) (digs_byt 1 n) ((digs_byt 4 a).append (digs_byt 4 b)) (by intro x hx; cases hx) (by simp [digs_length])
    rw [bv_digs 1 n (by omega), if_neg (by omega), List.append_nil, List.length_append, digs_length, digs_length] at h
    exact h
  have ht : (digs 4 a ++ digs 4 b ++ digs 1 n).take 8 = digs 8 S := by
    rw [← hd, List.take_append_of_le_length (by simp [digs_length]), List.take_of_length_le (by simp [digs_length])]
  have e9 : (((digs 4 a ++ digs 4 b ++ digs 1 n).length : Int) != 9) = false := by rw [hxl]; rfl
  have c8 : 8 ≤ ((digs 4 a ++ digs 4 b ++ digs 1 n).length : Int) := by rw [hxl]; decide
  have c0 : (8 : Nat) ≤ 281474976710656 := by decide
  have c1 : (9 : Nat) ≤ 281474976710656 := by decide
  refine Ev.rounds (g := fun k => woodcutlaw01_LeParts.f k a0 a1 a2) ?_
  unfold woodcutlaw01_LeParts.f
  simp only [ea, eb, en, w1, w2, c0, c1, if_true]
  refine Ev.bind p1 (Ev.bind p2 (Ev.bind p3 (Ev.bind p4 (Ev.bind g1 (Ev.bind g2 ?_)))))
  simp only [if_true, e9]
  refine Ev.step (f := fun k => _) (fun k => by simp only [woodcutlaw01_LeParts.j0, Bool.false_eq_true, if_false, c8, if_true]; rfl) ?_
  simp only [ht, w1, w2]
  refine Ev.bind (same _ _ (by rw [digs_length]; decide)) ?_
  simp only [decide_true, if_true]
  exact Ev.bind le_wakes (Ev.now _)

end Go.Proofs.Ytpaoboadccnnmaa.Pure
