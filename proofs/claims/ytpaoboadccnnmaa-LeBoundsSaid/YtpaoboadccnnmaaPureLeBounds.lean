/- The plain law behind the statement LeBounds: what the printed functions tell, put together. No program in sight. -/
import Derived.Test.YtpaoboadccnnmaaPAx13
import Derived.Test.YtpaoboadccnnmaaFLe
import Derived.Test.YtpaoboadccnnmaaFUse
namespace Go.Proofs.Ytpaoboadccnnmaa.Pure
set_option linter.unusedVariables false
set_option linter.unusedSimpArgs false
open Go Go.RowKit Go.Proofs.Ytpaoboadccnnmaa.PA Go.Proofs.Ytpaoboadccnnmaa.F Go.Proofs.YtpaoboadccnnmaaW.PrintWords Go.Proofs.YtpaoboadccnnmaaW.PrintLast Go.Proofs.YtpaoboadccnnmaaW.PrintMore

/-- What of a size is so. -/
theorem bounds_of (n s t : Nat) (hn : n < 20) (hs : Right (s : Int)) (hs8 : s ≤ 8) (ht : Fits (s : Int) (t : Int)) (ht2 : ¬ Fits (s : Int) ((t : Int) + 1)) (htp : t < 256 ^ s) :
    Ev (fun k => le_Put.f k (List.replicate (s + n) 0) (n : Int) (s : Int) (t : Int)) (List.replicate n 0 ++ digs s t, 0) ∧
    Ev (fun k => le_Put.f k (List.replicate (s + n) 0) (n : Int) (s : Int) ((t : Int) + 1)) ([], 1) ∧
    Ev (fun k => le_Put.f k (List.replicate (s + n) 0) ((n : Int) + 1) (s : Int) 0) ([], 3) ∧
    Ev (fun k => le_Put.f k (List.replicate (s + n) 0) (-1) (s : Int) 0) ([], 3) ∧
    Ev (fun k => le_Get.f k (List.replicate (s + n) 0) ((n : Int) + 1) (s : Int)) (0, 3) ∧
    Ev (fun k => le_Put.f k (List.replicate (s + n) 0) 0 ((s : Int) + 8) 0) ([], 1) ∧
    Ev (fun k => le_Get.f k (List.replicate n 0 ++ digs s t) (n : Int) (s : Int)) ((t : Int), 0) ∧
    Ev (fun k => le_Zeros.f k (List.replicate n 0 ++ digs s t) 0 (n : Int)) true := by
  have hl : (List.replicate (s + n) (0 : Int)).length < 140737488355328 := by rw [List.length_replicate]; omega
  have hb : Byt (List.replicate (s + n) (0 : Int)) := fun x hx => by rw [List.eq_of_mem_replicate hx]; decide
  have hbn : Byt (List.replicate n (0 : Int)) := fun x hx => by rw [List.eq_of_mem_replicate hx]; decide
  have f0 : Fits (s : Int) 0 := by
    unfold Fits
    unfold Right at hs
    omega
  have r8 : ¬ Right ((s : Int) + 8) := by
    unfold Right at hs ⊢
    omega
  refine ⟨?_, ?_, ?_, ?_, ?_, ?_, ?_, ?_⟩
  · have h := put_at (List.replicate n 0) (List.replicate s 0) s t (by simp; omega) hs ht (by simp)
    rw [List.replicate_append_replicate, List.length_replicate, Nat.add_comm n s, List.drop_of_length_le (by simp), List.append_nil] at h
    exact h
  · have h := put_f _ hl (n : Int) (s : Int) ((t : Int) + 1)
    unfold put at h
    rw [if_neg (fun h => ht2 h.2)] at h
    exact h
  · have h := put_f _ hl ((n : Int) + 1) (s : Int) 0
    unfold put at h
    rw [if_pos ⟨hs, f0⟩, if_neg (by rw [List.length_replicate]; omega)] at h
    exact h
  · have h := put_f _ hl (-1) (s : Int) 0
    unfold put at h
    rw [if_pos ⟨hs, f0⟩, if_neg (by omega)] at h
    exact h
  · have h := F.get _ hb (Nat.le_of_lt hl) ((n : Int) + 1) (s : Int)
    unfold got at h
    rw [if_pos hs, if_neg (by rw [List.length_replicate]; omega)] at h
    exact h
  · have h := put_f _ hl 0 ((s : Int) + 8) 0
    unfold put at h
    rw [if_neg (fun h => r8 h.1)] at h
    exact h
  · have h := F.get_at (List.replicate n 0) (digs s t) [] s (digs_length s t) hs (digs_byt s t) hbn (by intro x hx; cases hx) (by simp [digs_length]; omega)
    have ht3 := ht.2.1
    rw [bv_digs s t htp, if_neg (by omega), List.append_nil, List.length_replicate] at h
    exact h
  · refine zeros_yes _ (by simp [digs_length]; omega) 0 (n : Int) ?_
    intro i h1 h2 h3
    have hi : i < n := by omega
    rw [List.getD_eq_getElem?_getD, List.getElem?_append_left (by simpa using hi), List.getElem?_replicate]
    simp [hi]

theorem bounds_wraps (s n t : Nat) (hs : s ≤ 8) (hn : n < 20) (ht : (t : Int) ≤ 4611686018427387903) : wrap64 ((s : Int) + (n : Int)) = ((s + n : Nat) : Int) ∧ wrap64 ((t : Int) + 1) = (t : Int) + 1 ∧ wrap64 ((n : Int) + 1) = (n : Int) + 1 ∧ wrap64 ((s : Int) + 8) = (s : Int) + 8 := by
  refine ⟨?_, wrap_in (by omega) (by omega), wrap_in (by omega) (by omega), wrap_in (by omega) (by omega)⟩
  rw [wrap_in (by omega) (by omega)]
  omega
theorem LeBounds : woodcutlaw01_LeBounds.Pure := by
  intro a0 a1 h0 h1
  obtain ⟨m, hm, em⟩ := umod a0 4 (by decide) (by decide)
  obtain ⟨n, hn, en⟩ := umod a1 20 (by decide) (by decide)
  obtain ⟨s, t, es, et, hs, hs8, ht, ht2, htp⟩ : ∃ s t : Nat, rd [1, 2, 4, 8] (m : Int) = (s : Int) ∧ rd [255, 65535, 4294967295, 4611686018427387903] (m : Int) = (t : Int) ∧ Right (s : Int) ∧ s ≤ 8 ∧ Fits (s : Int) (t : Int) ∧ ¬ Fits (s : Int) ((t : Int) + 1) ∧ t < 256 ^ s := by
    have h4 : m = 0 ∨ m = 1 ∨ m = 2 ∨ m = 3 := by omega
    rcases h4 with rfl | rfl | rfl | rfl
    · exact ⟨1, 255, by decide, by decide, by decide, by decide, by decide, by decide, by decide⟩
    · exact ⟨2, 65535, by decide, by decide, by decide, by decide, by decide, by decide, by decide⟩
    · exact ⟨4, 4294967295, by decide, by decide, by decide, by decide, by decide, by decide, by decide⟩
    · exact ⟨8, 4611686018427387903, by decide, by decide, by decide, by decide, by decide, by decide, by decide⟩
  have htm : (t : Int) ≤ 4611686018427387903 := ht.2.1
  have c0 : (0 : Int) ≤ (m : Int) := by omega
  have c1 : (m : Int) < (([1, 2, 4, 8] : List Int).length : Int) := by simp; omega
  have c2 : (m : Int) < (([255, 65535, 4294967295, 4611686018427387903] : List Int).length : Int) := by simp; omega
  have c3 : (0 : Int) ≤ ((s + n : Nat) : Int) := by omega
  have c4 : s + n ≤ 281474976710656 := by omega
  have hn2 : n < 20 := by omega
  obtain ⟨w1, w2, w3, w4⟩ := bounds_wraps s n t hs8 hn2 htm
  obtain ⟨b1, b2, b3, b4, b5, b6, b7, b8⟩ := bounds_of n s t hn2 hs hs8 ht ht2 htp
  refine Ev.rounds (g := fun k => woodcutlaw01_LeBounds.f k a0 a1) ?_
  unfold woodcutlaw01_LeBounds.f
  simp only [em, en, Option.bind_some, es, et, w1, w2, w3, w4, c0, c1, c2, c3, c4, if_true, Int.toNat_natCast]
  refine Ev.bind b1 (Ev.bind b2 (Ev.bind b3 (Ev.bind b4 (Ev.bind b5 (Ev.bind b6 (Ev.bind b7 ?_))))))
  simp only [if_true]
  refine Ev.bind b8 ?_
  simp only [if_true]
  exact Ev.bind le_wakes (Ev.now _)

end Go.Proofs.Ytpaoboadccnnmaa.Pure
