/- The walk of the law IdsBack, out of what its callees tell. -/
import Derived.Test.YtblojnajchpemaaPAx
import Derived.WalkLawsBesides
import Derived.WalkSpells
import Derived.Lib.ConvBytes
namespace Go.Proofs.Ytblojnajchpemaa.WB
set_option linter.unusedVariables false
set_option linter.unusedSimpArgs false
open Go Go.RowKit Go.Proofs.Ytblojnajchpemaa.PA Go.Proofs.YtblojnajchpemaaW.PrintWords Go.Proofs.YtblojnajchpemaaW.PrintLast Go.Proofs.YtblojnajchpemaaW.PrintMore

theorem kcell (W : World) (S : ByteArray) (j : Nat) (hj : j < S.size) : (Lib.bytesWorld W 5 S).cell? ⟨W.heap.size, j, none⟩ = some (.int .u8 (bt S (j : Int))) := by
  rw [Lib.bytesWorld_cell W 5 S j hj]
  have h2 : j < S.data.toList.length := by rw [data_length]; exact hj
  congr 2
  unfold bt
  rw [dif_pos (by simpa using hj)]
  simp [List.getD_eq_getElem?_getD, List.getElem?_eq_getElem h2]
  rfl
theorem kfroz (W : World) (S : ByteArray) (j : Nat) (hj : j < S.size) : (Lib.bytesWorld W 5 S).frozen? ⟨W.heap.size, j, none⟩ = false := by
  have h := Lib.bytesWorld_at_new W 5 S
  have hs : S.size ≤ (Lib.bytesCells W 5 S).size := by
    unfold Lib.bytesCells
    simp
  simp only [World.frozen?, h]
  simp
  omega
theorem kread (W : World) (S : ByteArray) (j : Nat) (hj : j < S.size) (hs : S.size ≤ 9223372036854775807) (v : Int) :
    ReadsInt ((Lib.bytesWorld W 5 S).setCell ⟨W.heap.size, j, none⟩ (.int .u8 v)) .u8 (some ⟨W.heap.size, 0, none⟩) S.size ((bytesOf S).set j v) := by
  refine ⟨by rw [List.length_set, bytesOf_length], hs, fun _ => ⟨_, rfl, fun i hi => ?_⟩⟩
  have ha : (⟨W.heap.size, 0, none⟩ : Addr).add i = ⟨W.heap.size, i, none⟩ := by
    rcases i with _ | i
    · rfl
    · simp [Addr.add]
  have hl : i < (bytesOf S).length := by rw [bytesOf_length]; exact hi
  rw [ha, List.getD_eq_getElem?_getD, List.getElem?_set]
  by_cases e : j = i
  · subst e
    rw [World.cell?_setCell_same _ _ _ (kcell W S j hj)]
    simp [hl]
  · rw [World.cell?_setCell_other _ _ _ _ (by intro h; injection h with _ h; exact e h), kcell W S i hi, if_neg e, List.getElem?_eq_getElem hl]
    have h := rd_bytesOf S (i : Int)
    unfold rd at h
    rw [Int.toNat_natCast, List.getD_eq_getElem?_getD, List.getElem?_eq_getElem hl] at h
    rw [← h]

set_option maxHeartbeats 4000000 in
set_option maxRecDepth 100000 in
/-- Both are ids; the letter is a small one. -/
theorem both_large (a b c : Int) (S T : ByteArray) (j : Nat) (hj : j < 16) (k : Nat) (w : World)
    (hc : IntKind.i64.wrap (Int.tmod (IntKind.u64.wrap c) 16) = (j : Int))
    (hS : ids_Text.f k a = some (S, 0)) (hT : ids_Text.f k b = some (T, 0)) (hlen : (S.size : Int) = 16)
    (hP : ids_Parse.f k S = some (a, 0)) (heq : (S.toList == T.toList) = (a == b)) (hlt : Op.bytesLess S.toList T.toList = decide (a < b))
    (hcut : ids_Parse.f k (S.extract 0 j ++ S.extract (j + 1) 16) = some (0, 1))
    (x : Int) (hxe : bt S (j : Int) = x) (hx : 97 ≤ x) (hx2 : x ≤ 255) (U : ByteArray) (hUe : strOfNums ((bytesOf S).set j (x - 32)) = U)
    (hU : ids_Parse.f k U = some (0, 1))
    (hw : woodcutlaw04_wakes.f k = some true) :
    Calls Try.prog 4 #[.int .i64 a, .int .i64 b, .int .i64 c] w fun e w' => e = .returned (.bool true) ∧ Below w.heap.size w w' := by
  have hn : S.size = 16 := by omega
  have HS := Aside0.mk hS
  have HT := Aside0.mk hT
  have HP := Aside0.mk hP
  have HW := Aside0.mk hw
  have HC := Aside0.mk hcut
  have HU := Aside0.mk hU
  clear hS hT hP hw hcut hU
  have k1 : ∀ W : World, (Instr.slice 9 (.string S) none (some (.int .i64 (j : Int))) none).run Try.prog W = .ok (.string (S.extract 0 j)) W := fun W => by
    rw [run_slice_string_to_if W 9 S .i64 (j : Int) Try.underlying9, if_pos (by omega), Int.toNat_natCast]
  have k2 : ∀ W : World, (Instr.slice 9 (.string S) (some (.int .i64 ((j : Int) + 1))) none none).run Try.prog W = .ok (.string (S.extract (j + 1) 16)) W := fun W => by
    rw [run_slice_string_from_if W 9 S .i64 ((j : Int) + 1) Try.underlying9, if_pos (by omega), hn, show ((j : Int) + 1).toNat = j + 1 by omega]
  have kb := fun W => print_bytes (P := Try.prog) 9 37 5 Try.underlying9 Try.underlying37 Try.underlying5 S W
  have kc : ∀ W : World, (Lib.bytesWorld W 5 S).cell? ⟨W.heap.size, j, none⟩ = some (.int .u8 x) := fun W => by rw [kcell W S j (by omega), hxe]
  have kf : ∀ W : World, (Lib.bytesWorld W 5 S).frozen? ⟨W.heap.size, j, none⟩ = false := fun W => kfroz W S j (by omega)
  have ks : ∀ (W : World) (c : Nat), (convert 37 9 (.slice (some ⟨W.heap.size, 0, none⟩) S.size c)).run Try.prog ((Lib.bytesWorld W 5 S).setCell ⟨W.heap.size, j, none⟩ (.int .u8 (x - 32))) = .ok (.string U) ((Lib.bytesWorld W 5 S).setCell ⟨W.heap.size, j, none⟩ (.int .u8 (x - 32))) := fun W c => by
    rw [string_of_reads (P := Try.prog) Try.underlying37 Try.underlying5 Try.underlying9 (kread W S j (by omega) (by omega) (x - 32)), hUe]
  have kx : ∀ h, ((S[(j : Int).toNat]'h).toNat : Int) = x := fun h => (bt_at S (j : Int) h).trans hxe
  have kx2 : ∀ h, ((S[j]'h).toNat : Int) = x := fun h => by
    have := kx (by simpa using h)
    simpa using this
  have hx3 : decide (x < 97) = false := decide_eq_false (by omega)
  have j0 : 0 ≤ (j : Int) := by omega
  have j1 : (j : Int) < 16 := by omega
  have j2 : (j : Int) < (S.size : Int) := by omega
  have j3 : j < S.size := by omega
  clear hn hxe hUe
  have HB := Aside0.mk (Below.refl w.heap.size w)
  go_enter Try.func4, Try.ntmps4
  go_wp2_with (first | (go_at_call 6; (first | (with_reducible refine (ids_Text.calls k a S 0 _ HS.out).mono ?_) | (with_reducible refine (ids_Text.calls k b T 0 _ HT.out).mono ?_)); rintro e w' ⟨rfl, hb⟩; have n_ := Aside0.mk (below_step HB.out hb); clear HB hb; have HB := n_; clear n_) | (go_at_call 7; (with_reducible refine (ids_Parse.calls k S a 0 _ HP.out).mono ?_); rintro e w' ⟨rfl, ⟨nd, rfl⟩⟩))
  go_quiet ((go_at_call 7; (with_reducible refine (ids_Parse.calls k _ 0 1 _ HC.out).mono ?_); rintro e w' ⟨rfl, ⟨nd, rfl⟩⟩; (first | exact ⟨rfl, _, World.drewN_drewN _ _ _⟩ | exact ⟨rfl, _, Eq.trans (World.drewN_drewN _ _ _) (congrArg (World.drewN _) (Nat.add_assoc _ _ _))⟩)))
  have HB2 := Aside0.mk (pw_below_drewN HB.out)
  clear HB
  generalize hW : World.drewN _ _ = W1
  have HWW := Aside0.mk hW
  clear hW
  go_wp2_with (first | (go_at_call 7; (with_reducible refine (ids_Parse.calls k U 0 1 _ HU.out).mono ?_); rintro e w' ⟨rfl, ⟨nd, rfl⟩⟩) | (go_at_call 12; (with_reducible refine (woodcutlaw04_wakes.calls k true _ HW.out).mono ?_); rintro e w' ⟨rfl, hb⟩))
  go_ret
  refine ⟨rfl, ?_⟩
  have h1 : Below w.heap.size w W1 := by
    rw [← HWW.out]
    exact pw_below_drewN (HB2.out _) _
  exact below_step (by repeat (first | exact bytes_below h1 h1.size 5 S | apply pw_below_drewN | apply below_drew1 | (refine Below.setCell ?_ ?_ _; rotate_left; exact h1.size))) hb
set_option maxHeartbeats 4000000 in
set_option maxRecDepth 100000 in
/-- Both are ids; the sign is no letter. -/
theorem both_plain (a b c : Int) (S T : ByteArray) (j : Nat) (hj : j < 16) (k : Nat) (w : World)
    (hc : IntKind.i64.wrap (Int.tmod (IntKind.u64.wrap c) 16) = (j : Int))
    (hS : ids_Text.f k a = some (S, 0)) (hT : ids_Text.f k b = some (T, 0)) (hlen : (S.size : Int) = 16)
    (hP : ids_Parse.f k S = some (a, 0)) (heq : (S.toList == T.toList) = (a == b)) (hlt : Op.bytesLess S.toList T.toList = decide (a < b))
    (hcut : ids_Parse.f k (S.extract 0 j ++ S.extract (j + 1) 16) = some (0, 1))
    (x : Int) (hxe : bt S (j : Int) = x) (hx : x < 97) (hx2 : 0 ≤ x) (hUe : strOfNums (bytesOf S) = S)
    (hw : woodcutlaw04_wakes.f k = some true) :
    Calls Try.prog 4 #[.int .i64 a, .int .i64 b, .int .i64 c] w fun e w' => e = .returned (.bool true) ∧ Below w.heap.size w w' := by
  have hn : S.size = 16 := by omega
  have HS := Aside0.mk hS
  have HT := Aside0.mk hT
  have HP := Aside0.mk hP
  have HW := Aside0.mk hw
  have HC := Aside0.mk hcut
  clear hS hT hP hw hcut
  have k1 : ∀ W : World, (Instr.slice 9 (.string S) none (some (.int .i64 (j : Int))) none).run Try.prog W = .ok (.string (S.extract 0 j)) W := fun W => by
    rw [run_slice_string_to_if W 9 S .i64 (j : Int) Try.underlying9, if_pos (by omega), Int.toNat_natCast]
  have k2 : ∀ W : World, (Instr.slice 9 (.string S) (some (.int .i64 ((j : Int) + 1))) none none).run Try.prog W = .ok (.string (S.extract (j + 1) 16)) W := fun W => by
    rw [run_slice_string_from_if W 9 S .i64 ((j : Int) + 1) Try.underlying9, if_pos (by omega), hn, show ((j : Int) + 1).toNat = j + 1 by omega]
  have kb := fun W => print_bytes (P := Try.prog) 9 37 5 Try.underlying9 Try.underlying37 Try.underlying5 S W
  have kc : ∀ W : World, (Lib.bytesWorld W 5 S).cell? ⟨W.heap.size, j, none⟩ = some (.int .u8 x) := fun W => by rw [kcell W S j (by omega), hxe]
  have kf : ∀ W : World, (Lib.bytesWorld W 5 S).frozen? ⟨W.heap.size, j, none⟩ = false := fun W => kfroz W S j (by omega)
  have ks : ∀ (W : World) (c : Nat), (convert 37 9 (.slice (some ⟨W.heap.size, 0, none⟩) S.size c)).run Try.prog (Lib.bytesWorld W 5 S) = .ok (.string S) (Lib.bytesWorld W 5 S) := fun W c => by
    rw [string_of_reads (P := Try.prog) Try.underlying37 Try.underlying5 Try.underlying9 (bytes_reads W 5 S (by omega)), hUe]
  have kx : ∀ h, ((S[(j : Int).toNat]'h).toNat : Int) = x := fun h => (bt_at S (j : Int) h).trans hxe
  have kx2 : ∀ h, ((S[j]'h).toNat : Int) = x := fun h => by
    have := kx (by simpa using h)
    simpa using this
  have hx3 : decide (x < 97) = true := decide_eq_true hx
  have hx4 : decide (97 ≤ x) = false := decide_eq_false (by omega)
  have j0 : 0 ≤ (j : Int) := by omega
  have j1 : (j : Int) < 16 := by omega
  have j2 : (j : Int) < (S.size : Int) := by omega
  have j3 : j < S.size := by omega
  clear hn hxe hUe
  have HB := Aside0.mk (Below.refl w.heap.size w)
  go_enter Try.func4, Try.ntmps4
  go_wp2_with (first | (go_at_call 6; (first | (with_reducible refine (ids_Text.calls k a S 0 _ HS.out).mono ?_) | (with_reducible refine (ids_Text.calls k b T 0 _ HT.out).mono ?_)); rintro e w' ⟨rfl, hb⟩; have n_ := Aside0.mk (below_step HB.out hb); clear HB hb; have HB := n_; clear n_) | (go_at_call 7; (with_reducible refine (ids_Parse.calls k S a 0 _ HP.out).mono ?_); rintro e w' ⟨rfl, ⟨nd, rfl⟩⟩))
  go_quiet ((go_at_call 7; (with_reducible refine (ids_Parse.calls k _ 0 1 _ HC.out).mono ?_); rintro e w' ⟨rfl, ⟨nd, rfl⟩⟩; (first | exact ⟨rfl, _, World.drewN_drewN _ _ _⟩ | exact ⟨rfl, _, Eq.trans (World.drewN_drewN _ _ _) (congrArg (World.drewN _) (Nat.add_assoc _ _ _))⟩)))
  have HB2 := Aside0.mk (pw_below_drewN HB.out)
  clear HB
  generalize hW : World.drewN _ _ = W1
  have HWW := Aside0.mk hW
  clear hW
  go_wp2_with (first | (go_at_call 7; (with_reducible refine (ids_Parse.calls k S a 0 _ HP.out).mono ?_); rintro e w' ⟨rfl, ⟨nd, rfl⟩⟩) | (go_at_call 12; (with_reducible refine (woodcutlaw04_wakes.calls k true _ HW.out).mono ?_); rintro e w' ⟨rfl, hb⟩))
  go_ret
  refine ⟨rfl, ?_⟩
  have h1 : Below w.heap.size w W1 := by
    rw [← HWW.out]
    exact pw_below_drewN (HB2.out _) _
  exact below_step (by repeat (first | exact bytes_below h1 h1.size 5 S | apply pw_below_drewN | apply below_drew1 | (refine Below.setCell ?_ ?_ _; rotate_left; exact h1.size))) hb
set_option maxHeartbeats 4000000 in
set_option maxRecDepth 100000 in
/-- The second is none. -/
theorem second_none (a b c : Int) (S : ByteArray) (k : Nat) (w : World)
    (hS : ids_Text.f k a = some (S, 0)) (hT : ids_Text.f k b = some ((⟨#[]⟩ : ByteArray), 1))
    (hw : woodcutlaw04_wakes.f k = some true) :
    Calls Try.prog 4 #[.int .i64 a, .int .i64 b, .int .i64 c] w fun e w' => e = .returned (.bool true) ∧ Below w.heap.size w w' := by
  have HS := Aside0.mk hS
  have HT := Aside0.mk hT
  have HW := Aside0.mk hw
  clear hS hT hw
  have HB := Aside0.mk (Below.refl w.heap.size w)
  have e0 : (⟨#[]⟩ : ByteArray).toList = ([] : List UInt8) := by decide +kernel
  go_enter Try.func4, Try.ntmps4
  go_wp2_with (first | (go_at_call 6; (first | (with_reducible refine (ids_Text.calls k a _ 0 _ HS.out).mono ?_) | (with_reducible refine (ids_Text.calls k b _ 1 _ HT.out).mono ?_)); rintro e w' ⟨rfl, hb⟩; have n_ := Aside0.mk (below_step HB.out hb); clear HB hb; have HB := n_; clear n_) | (go_at_call 12; (with_reducible refine (woodcutlaw04_wakes.calls k true _ HW.out).mono ?_); rintro e w' ⟨rfl, hb⟩))
  go_ret
  exact ⟨rfl, below_step HB.out hb⟩
set_option maxHeartbeats 4000000 in
set_option maxRecDepth 100000 in
/-- The first is none. -/
theorem first_none (a b c : Int) (T : ByteArray) (k : Nat) (w : World)
    (hS : ids_Text.f k a = some ((⟨#[]⟩ : ByteArray), 1)) (hT : ids_Text.f k b = some (T, 0))
    (hw : woodcutlaw04_wakes.f k = some true) :
    Calls Try.prog 4 #[.int .i64 a, .int .i64 b, .int .i64 c] w fun e w' => e = .returned (.bool true) ∧ Below w.heap.size w w' := by
  have HS := Aside0.mk hS
  have HT := Aside0.mk hT
  have HW := Aside0.mk hw
  clear hS hT hw
  have HB := Aside0.mk (Below.refl w.heap.size w)
  have e0 : (⟨#[]⟩ : ByteArray).toList = ([] : List UInt8) := by decide +kernel
  go_enter Try.func4, Try.ntmps4
  go_wp2_with (first | (go_at_call 6; (first | (with_reducible refine (ids_Text.calls k a _ 1 _ HS.out).mono ?_) | (with_reducible refine (ids_Text.calls k b _ 0 _ HT.out).mono ?_)); rintro e w' ⟨rfl, hb⟩; have n_ := Aside0.mk (below_step HB.out hb); clear HB hb; have HB := n_; clear n_) | (go_at_call 12; (with_reducible refine (woodcutlaw04_wakes.calls k true _ HW.out).mono ?_); rintro e w' ⟨rfl, hb⟩))
  go_ret
  exact ⟨rfl, below_step HB.out hb⟩
set_option maxHeartbeats 4000000 in
set_option maxRecDepth 100000 in
/-- Both are none. -/
theorem both_none (a b c : Int) (k : Nat) (w : World)
    (hS : ids_Text.f k a = some ((⟨#[]⟩ : ByteArray), 1)) (hT : ids_Text.f k b = some ((⟨#[]⟩ : ByteArray), 1))
    (hw : woodcutlaw04_wakes.f k = some true) :
    Calls Try.prog 4 #[.int .i64 a, .int .i64 b, .int .i64 c] w fun e w' => e = .returned (.bool true) ∧ Below w.heap.size w w' := by
  have HS := Aside0.mk hS
  have HT := Aside0.mk hT
  have HW := Aside0.mk hw
  clear hS hT hw
  have HB := Aside0.mk (Below.refl w.heap.size w)
  have e0 : (⟨#[]⟩ : ByteArray).toList = ([] : List UInt8) := by decide +kernel
  go_enter Try.func4, Try.ntmps4
  go_wp2_with (first | (go_at_call 6; (first | (with_reducible refine (ids_Text.calls k a _ 1 _ HS.out).mono ?_) | (with_reducible refine (ids_Text.calls k b _ 1 _ HT.out).mono ?_)); rintro e w' ⟨rfl, hb⟩; have n_ := Aside0.mk (below_step HB.out hb); clear HB hb; have HB := n_; clear n_) | (go_at_call 12; (with_reducible refine (woodcutlaw04_wakes.calls k true _ HW.out).mono ?_); rintro e w' ⟨rfl, hb⟩))
  go_ret
  exact ⟨rfl, below_step HB.out hb⟩
end Go.Proofs.Ytblojnajchpemaa.WB
