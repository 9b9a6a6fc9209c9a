/- Which registers an instruction takes and sets: Data. -/
import Derived.Test.YtikflhigenijdaaRegsTold
namespace Go.Proofs.Ytikflhigenijdaa
open Go.RowKit

set_option maxHeartbeats 400000 in
theorem data_1 (d n m imm kind : Int) (w : World) : Calls Try.prog 21 #[instrV 1 d n m imm kind] w (ListPost (dataL 1 d n m) w) := by
  have HP : Hid (∀ e w', (∃ v, e = .returned v ∧ readRow w' v (dataL 1 d n m).length (intsZ (dataL 1 d n m)) ∧ Below w.heap.size w w') → ListPost (dataL 1 d n m) w e w') := fun _ _ h => h
  have I0 := InstrAt.new w 42 1 d n m imm kind
  go_enter Try.func21, Try.ntmps21
  go_wp2
  go_ret
  exact HP.out _ _ ⟨_, rfl, readNil _, below_alloc (Below.refl _ _) _⟩

set_option maxHeartbeats 400000 in
theorem data_2 (d n m imm kind : Int) (w : World) : Calls Try.prog 21 #[instrV 2 d n m imm kind] w (ListPost (dataL 2 d n m) w) := by
  have HP : Hid (∀ e w', (∃ v, e = .returned v ∧ readRow w' v (dataL 2 d n m).length (intsZ (dataL 2 d n m)) ∧ Below w.heap.size w w') → ListPost (dataL 2 d n m) w e w') := fun _ _ h => h
  have I0 := InstrAt.new w 42 2 d n m imm kind
  go_enter Try.func21, Try.ntmps21
  go_wp2
  go_ret
  exact HP.out _ _ ⟨_, rfl, readNil _, below_alloc (Below.refl _ _) _⟩

set_option maxHeartbeats 400000 in
theorem data_3 (d n m imm kind : Int) (w : World) : Calls Try.prog 21 #[instrV 3 d n m imm kind] w (ListPost (dataL 3 d n m) w) := by
  have HP : Hid (∀ e w', (∃ v, e = .returned v ∧ readRow w' v (dataL 3 d n m).length (intsZ (dataL 3 d n m)) ∧ Below w.heap.size w w') → ListPost (dataL 3 d n m) w e w') := fun _ _ h => h
  have I0 := InstrAt.new w 42 3 d n m imm kind
  go_enter Try.func21, Try.ntmps21
  go_wp2_with fail
  refine (add_any (w.heap.size + 1) _ [] _ _ (World.ownsRow_nil _ _ _ _) (by decide) (by simp)).mono ?_
  rintro e w1 ⟨v, rfl, hown, hb⟩
  have HO := Lib.hid hown
  clear hown
  have HB := Lib.hid ((below_alloc (Below.refl w.heap.size w) (.cells #[.int .i64 3, .int .i64 d, .int .i64 n, .int .i64 m, .int .i64 imm, .int .i64 kind] 42)).trans (hb.mono (by omega)))
  go_wp2
  go_ret
  exact HP.out _ _ ⟨_, rfl, readRow_own HO.out, HB.out⟩

set_option maxHeartbeats 400000 in
theorem data_4 (d n m imm kind : Int) (w : World) : Calls Try.prog 21 #[instrV 4 d n m imm kind] w (ListPost (dataL 4 d n m) w) := by
  have HP : Hid (∀ e w', (∃ v, e = .returned v ∧ readRow w' v (dataL 4 d n m).length (intsZ (dataL 4 d n m)) ∧ Below w.heap.size w w') → ListPost (dataL 4 d n m) w e w') := fun _ _ h => h
  have I0 := InstrAt.new w 42 4 d n m imm kind
  go_enter Try.func21, Try.ntmps21
  go_wp2
  go_ret
  exact HP.out _ _ ⟨_, rfl, readNil _, below_alloc (Below.refl _ _) _⟩

set_option maxHeartbeats 400000 in
theorem data_5 (d n m imm kind : Int) (w : World) : Calls Try.prog 21 #[instrV 5 d n m imm kind] w (ListPost (dataL 5 d n m) w) := by
  have HP : Hid (∀ e w', (∃ v, e = .returned v ∧ readRow w' v (dataL 5 d n m).length (intsZ (dataL 5 d n m)) ∧ Below w.heap.size w w') → ListPost (dataL 5 d n m) w e w') := fun _ _ h => h
  have I0 := InstrAt.new w 42 5 d n m imm kind
  go_enter Try.func21, Try.ntmps21
  go_wp2_with fail
  refine (add_any (w.heap.size + 1) _ [] _ _ (World.ownsRow_nil _ _ _ _) (by decide) (by simp)).mono ?_
  rintro e w1 ⟨v, rfl, hown, hb⟩
  have HO := Lib.hid hown
  clear hown
  have HB := Lib.hid ((below_alloc (Below.refl w.heap.size w) (.cells #[.int .i64 5, .int .i64 d, .int .i64 n, .int .i64 m, .int .i64 imm, .int .i64 kind] 42)).trans (hb.mono (by omega)))
  go_wp2
  go_ret
  exact HP.out _ _ ⟨_, rfl, readRow_own HO.out, HB.out⟩

set_option maxHeartbeats 400000 in
theorem data_6 (d n m imm kind : Int) (w : World) : Calls Try.prog 21 #[instrV 6 d n m imm kind] w (ListPost (dataL 6 d n m) w) := by
  have HP : Hid (∀ e w', (∃ v, e = .returned v ∧ readRow w' v (dataL 6 d n m).length (intsZ (dataL 6 d n m)) ∧ Below w.heap.size w w') → ListPost (dataL 6 d n m) w e w') := fun _ _ h => h
  have I0 := InstrAt.new w 42 6 d n m imm kind
  go_enter Try.func21, Try.ntmps21
  go_wp2
  go_ret
  exact HP.out _ _ ⟨_, rfl, readNil _, below_alloc (Below.refl _ _) _⟩

set_option maxHeartbeats 400000 in
theorem data_7 (d n m imm kind : Int) (w : World) : Calls Try.prog 21 #[instrV 7 d n m imm kind] w (ListPost (dataL 7 d n m) w) := by
  have HP : Hid (∀ e w', (∃ v, e = .returned v ∧ readRow w' v (dataL 7 d n m).length (intsZ (dataL 7 d n m)) ∧ Below w.heap.size w w') → ListPost (dataL 7 d n m) w e w') := fun _ _ h => h
  have I0 := InstrAt.new w 42 7 d n m imm kind
  go_enter Try.func21, Try.ntmps21
  go_wp2_with fail
  refine (add_any (w.heap.size + 1) _ [] _ _ (World.ownsRow_nil _ _ _ _) (by decide) (by simp)).mono ?_
  rintro e w1 ⟨v, rfl, hown, hb⟩
  have HO := Lib.hid hown
  clear hown
  have HB := Lib.hid ((below_alloc (Below.refl w.heap.size w) (.cells #[.int .i64 7, .int .i64 d, .int .i64 n, .int .i64 m, .int .i64 imm, .int .i64 kind] 42)).trans (hb.mono (by omega)))
  go_wp2
  go_ret
  exact HP.out _ _ ⟨_, rfl, readRow_own HO.out, HB.out⟩

set_option maxHeartbeats 400000 in
theorem data_8 (d n m imm kind : Int) (w : World) : Calls Try.prog 21 #[instrV 8 d n m imm kind] w (ListPost (dataL 8 d n m) w) := by
  have HP : Hid (∀ e w', (∃ v, e = .returned v ∧ readRow w' v (dataL 8 d n m).length (intsZ (dataL 8 d n m)) ∧ Below w.heap.size w w') → ListPost (dataL 8 d n m) w e w') := fun _ _ h => h
  have I0 := InstrAt.new w 42 8 d n m imm kind
  have hlen := addL_len [] n
  simp only [List.length_nil] at hlen
  go_enter Try.func21, Try.ntmps21
  go_wp2_with fail
  obtain ⟨c0, c1, c2, c3, c4, c5⟩ := I0.cells
  have hsz0 : w.heap.size + 1 ≤ (w.alloc (.cells #[.int .i64 8, .int .i64 d, .int .i64 n, .int .i64 m, .int .i64 imm, .int .i64 kind] 42)).drew.heap.size := by simp
  go_region_held3 (fun w' => w'.cell? ⟨w.heap.size, 2, none⟩ = some (.int .i64 n) ∧ w'.cell? ⟨w.heap.size, 3, none⟩ = some (.int .i64 m)) (first | exact ⟨c2, c3⟩ | exact ⟨(hb.cell (p := ⟨w.heap.size, 2, none⟩) (Nat.lt_succ_self _)).trans c2, (hb.cell (p := ⟨w.heap.size, 3, none⟩) (Nat.lt_succ_self _)).trans c3⟩ | exact ⟨(hb2.cell (p := ⟨w.heap.size, 2, none⟩) (Nat.lt_succ_self _)).trans ((hb.cell (p := ⟨w.heap.size, 2, none⟩) (Nat.lt_succ_self _)).trans c2), (hb2.cell (p := ⟨w.heap.size, 3, none⟩) (Nat.lt_succ_self _)).trans ((hb.cell (p := ⟨w.heap.size, 3, none⟩) (Nat.lt_succ_self _)).trans c3)⟩) (first | (go_at_call 40; refine (add_any (w.heap.size + 1) _ (addL [] n) _ _ HO.out (by omega) hs1).mono ?_; rintro e w2 ⟨v2, rfl, hown2, hb2⟩; have HO2 := Lib.hid hown2; clear hown2) | (go_at_call 40; refine (add_any (w.heap.size + 1) _ [] _ _ (World.ownsRow_nil _ _ _ _) (by decide) hsz0).mono ?_; rintro e w1 ⟨v, rfl, hown, hb⟩; have HO := Lib.hid hown; clear hown; have hs1 : w.heap.size + 1 ≤ w1.heap.size := Nat.le_trans hsz0 hb.size))
  all_goals
    go_wp2
    go_ret
    exact HP.out _ _ ⟨_, rfl, readRow_own HO2.out, (below_drew1 (below_alloc (Below.refl w.heap.size w) _)).trans ((hb.mono (by omega)).trans (hb2.mono (by omega)))⟩

set_option maxHeartbeats 400000 in
theorem data_9 (d n m imm kind : Int) (w : World) : Calls Try.prog 21 #[instrV 9 d n m imm kind] w (ListPost (dataL 9 d n m) w) := by
  have HP : Hid (∀ e w', (∃ v, e = .returned v ∧ readRow w' v (dataL 9 d n m).length (intsZ (dataL 9 d n m)) ∧ Below w.heap.size w w') → ListPost (dataL 9 d n m) w e w') := fun _ _ h => h
  have I0 := InstrAt.new w 42 9 d n m imm kind
  have hlen := addL_len [] n
  simp only [List.length_nil] at hlen
  go_enter Try.func21, Try.ntmps21
  go_wp2_with fail
  obtain ⟨c0, c1, c2, c3, c4, c5⟩ := I0.cells
  have hsz0 : w.heap.size + 1 ≤ (w.alloc (.cells #[.int .i64 9, .int .i64 d, .int .i64 n, .int .i64 m, .int .i64 imm, .int .i64 kind] 42)).drew.heap.size := by simp
  go_region_held3 (fun w' => w'.cell? ⟨w.heap.size, 2, none⟩ = some (.int .i64 n) ∧ w'.cell? ⟨w.heap.size, 3, none⟩ = some (.int .i64 m)) (first | exact ⟨c2, c3⟩ | exact ⟨(hb.cell (p := ⟨w.heap.size, 2, none⟩) (Nat.lt_succ_self _)).trans c2, (hb.cell (p := ⟨w.heap.size, 3, none⟩) (Nat.lt_succ_self _)).trans c3⟩ | exact ⟨(hb2.cell (p := ⟨w.heap.size, 2, none⟩) (Nat.lt_succ_self _)).trans ((hb.cell (p := ⟨w.heap.size, 2, none⟩) (Nat.lt_succ_self _)).trans c2), (hb2.cell (p := ⟨w.heap.size, 3, none⟩) (Nat.lt_succ_self _)).trans ((hb.cell (p := ⟨w.heap.size, 3, none⟩) (Nat.lt_succ_self _)).trans c3)⟩) (first | (go_at_call 40; refine (add_any (w.heap.size + 1) _ (addL [] n) _ _ HO.out (by omega) hs1).mono ?_; rintro e w2 ⟨v2, rfl, hown2, hb2⟩; have HO2 := Lib.hid hown2; clear hown2) | (go_at_call 40; refine (add_any (w.heap.size + 1) _ [] _ _ (World.ownsRow_nil _ _ _ _) (by decide) hsz0).mono ?_; rintro e w1 ⟨v, rfl, hown, hb⟩; have HO := Lib.hid hown; clear hown; have hs1 : w.heap.size + 1 ≤ w1.heap.size := Nat.le_trans hsz0 hb.size))
  all_goals
    go_wp2
    go_ret
    exact HP.out _ _ ⟨_, rfl, readRow_own HO2.out, (below_drew1 (below_alloc (Below.refl w.heap.size w) _)).trans ((hb.mono (by omega)).trans (hb2.mono (by omega)))⟩

set_option maxHeartbeats 400000 in
theorem data_10 (d n m imm kind : Int) (w : World) : Calls Try.prog 21 #[instrV 10 d n m imm kind] w (ListPost (dataL 10 d n m) w) := by
  have HP : Hid (∀ e w', (∃ v, e = .returned v ∧ readRow w' v (dataL 10 d n m).length (intsZ (dataL 10 d n m)) ∧ Below w.heap.size w w') → ListPost (dataL 10 d n m) w e w') := fun _ _ h => h
  have I0 := InstrAt.new w 42 10 d n m imm kind
  have hlen := addL_len [] n
  simp only [List.length_nil] at hlen
  go_enter Try.func21, Try.ntmps21
  go_wp2_with fail
  obtain ⟨c0, c1, c2, c3, c4, c5⟩ := I0.cells
  have hsz0 : w.heap.size + 1 ≤ (w.alloc (.cells #[.int .i64 10, .int .i64 d, .int .i64 n, .int .i64 m, .int .i64 imm, .int .i64 kind] 42)).drew.heap.size := by simp
  go_region_held3 (fun w' => w'.cell? ⟨w.heap.size, 2, none⟩ = some (.int .i64 n) ∧ w'.cell? ⟨w.heap.size, 3, none⟩ = some (.int .i64 m)) (first | exact ⟨c2, c3⟩ | exact ⟨(hb.cell (p := ⟨w.heap.size, 2, none⟩) (Nat.lt_succ_self _)).trans c2, (hb.cell (p := ⟨w.heap.size, 3, none⟩) (Nat.lt_succ_self _)).trans c3⟩ | exact ⟨(hb2.cell (p := ⟨w.heap.size, 2, none⟩) (Nat.lt_succ_self _)).trans ((hb.cell (p := ⟨w.heap.size, 2, none⟩) (Nat.lt_succ_self _)).trans c2), (hb2.cell (p := ⟨w.heap.size, 3, none⟩) (Nat.lt_succ_self _)).trans ((hb.cell (p := ⟨w.heap.size, 3, none⟩) (Nat.lt_succ_self _)).trans c3)⟩) (first | (go_at_call 40; refine (add_any (w.heap.size + 1) _ (addL [] n) _ _ HO.out (by omega) hs1).mono ?_; rintro e w2 ⟨v2, rfl, hown2, hb2⟩; have HO2 := Lib.hid hown2; clear hown2) | (go_at_call 40; refine (add_any (w.heap.size + 1) _ [] _ _ (World.ownsRow_nil _ _ _ _) (by decide) hsz0).mono ?_; rintro e w1 ⟨v, rfl, hown, hb⟩; have HO := Lib.hid hown; clear hown; have hs1 : w.heap.size + 1 ≤ w1.heap.size := Nat.le_trans hsz0 hb.size))
  all_goals
    go_wp2
    go_ret
    exact HP.out _ _ ⟨_, rfl, readRow_own HO2.out, (below_drew1 (below_alloc (Below.refl w.heap.size w) _)).trans ((hb.mono (by omega)).trans (hb2.mono (by omega)))⟩

set_option maxHeartbeats 400000 in
theorem data_11 (d n m imm kind : Int) (w : World) : Calls Try.prog 21 #[instrV 11 d n m imm kind] w (ListPost (dataL 11 d n m) w) := by
  have HP : Hid (∀ e w', (∃ v, e = .returned v ∧ readRow w' v (dataL 11 d n m).length (intsZ (dataL 11 d n m)) ∧ Below w.heap.size w w') → ListPost (dataL 11 d n m) w e w') := fun _ _ h => h
  have I0 := InstrAt.new w 42 11 d n m imm kind
  have hlen := addL_len [] n
  simp only [List.length_nil] at hlen
  go_enter Try.func21, Try.ntmps21
  go_wp2_with fail
  obtain ⟨c0, c1, c2, c3, c4, c5⟩ := I0.cells
  have hsz0 : w.heap.size + 1 ≤ (w.alloc (.cells #[.int .i64 11, .int .i64 d, .int .i64 n, .int .i64 m, .int .i64 imm, .int .i64 kind] 42)).drew.heap.size := by simp
  go_region_held3 (fun w' => w'.cell? ⟨w.heap.size, 2, none⟩ = some (.int .i64 n) ∧ w'.cell? ⟨w.heap.size, 3, none⟩ = some (.int .i64 m)) (first | exact ⟨c2, c3⟩ | exact ⟨(hb.cell (p := ⟨w.heap.size, 2, none⟩) (Nat.lt_succ_self _)).trans c2, (hb.cell (p := ⟨w.heap.size, 3, none⟩) (Nat.lt_succ_self _)).trans c3⟩ | exact ⟨(hb2.cell (p := ⟨w.heap.size, 2, none⟩) (Nat.lt_succ_self _)).trans ((hb.cell (p := ⟨w.heap.size, 2, none⟩) (Nat.lt_succ_self _)).trans c2), (hb2.cell (p := ⟨w.heap.size, 3, none⟩) (Nat.lt_succ_self _)).trans ((hb.cell (p := ⟨w.heap.size, 3, none⟩) (Nat.lt_succ_self _)).trans c3)⟩) (first | (go_at_call 40; refine (add_any (w.heap.size + 1) _ (addL [] n) _ _ HO.out (by omega) hs1).mono ?_; rintro e w2 ⟨v2, rfl, hown2, hb2⟩; have HO2 := Lib.hid hown2; clear hown2) | (go_at_call 40; refine (add_any (w.heap.size + 1) _ [] _ _ (World.ownsRow_nil _ _ _ _) (by decide) hsz0).mono ?_; rintro e w1 ⟨v, rfl, hown, hb⟩; have HO := Lib.hid hown; clear hown; have hs1 : w.heap.size + 1 ≤ w1.heap.size := Nat.le_trans hsz0 hb.size))
  all_goals
    go_wp2
    go_ret
    exact HP.out _ _ ⟨_, rfl, readRow_own HO2.out, (below_drew1 (below_alloc (Below.refl w.heap.size w) _)).trans ((hb.mono (by omega)).trans (hb2.mono (by omega)))⟩

set_option maxHeartbeats 400000 in
theorem data_12 (d n m imm kind : Int) (w : World) : Calls Try.prog 21 #[instrV 12 d n m imm kind] w (ListPost (dataL 12 d n m) w) := by
  have HP : Hid (∀ e w', (∃ v, e = .returned v ∧ readRow w' v (dataL 12 d n m).length (intsZ (dataL 12 d n m)) ∧ Below w.heap.size w w') → ListPost (dataL 12 d n m) w e w') := fun _ _ h => h
  have I0 := InstrAt.new w 42 12 d n m imm kind
  have hlen := addL_len [] n
  simp only [List.length_nil] at hlen
  go_enter Try.func21, Try.ntmps21
  go_wp2_with fail
  obtain ⟨c0, c1, c2, c3, c4, c5⟩ := I0.cells
  have hsz0 : w.heap.size + 1 ≤ (w.alloc (.cells #[.int .i64 12, .int .i64 d, .int .i64 n, .int .i64 m, .int .i64 imm, .int .i64 kind] 42)).drew.heap.size := by simp
  go_region_held3 (fun w' => w'.cell? ⟨w.heap.size, 2, none⟩ = some (.int .i64 n) ∧ w'.cell? ⟨w.heap.size, 3, none⟩ = some (.int .i64 m)) (first | exact ⟨c2, c3⟩ | exact ⟨(hb.cell (p := ⟨w.heap.size, 2, none⟩) (Nat.lt_succ_self _)).trans c2, (hb.cell (p := ⟨w.heap.size, 3, none⟩) (Nat.lt_succ_self _)).trans c3⟩ | exact ⟨(hb2.cell (p := ⟨w.heap.size, 2, none⟩) (Nat.lt_succ_self _)).trans ((hb.cell (p := ⟨w.heap.size, 2, none⟩) (Nat.lt_succ_self _)).trans c2), (hb2.cell (p := ⟨w.heap.size, 3, none⟩) (Nat.lt_succ_self _)).trans ((hb.cell (p := ⟨w.heap.size, 3, none⟩) (Nat.lt_succ_self _)).trans c3)⟩) (first | (go_at_call 40; refine (add_any (w.heap.size + 1) _ (addL [] n) _ _ HO.out (by omega) hs1).mono ?_; rintro e w2 ⟨v2, rfl, hown2, hb2⟩; have HO2 := Lib.hid hown2; clear hown2) | (go_at_call 40; refine (add_any (w.heap.size + 1) _ [] _ _ (World.ownsRow_nil _ _ _ _) (by decide) hsz0).mono ?_; rintro e w1 ⟨v, rfl, hown, hb⟩; have HO := Lib.hid hown; clear hown; have hs1 : w.heap.size + 1 ≤ w1.heap.size := Nat.le_trans hsz0 hb.size))
  all_goals
    go_wp2
    go_ret
    exact HP.out _ _ ⟨_, rfl, readRow_own HO2.out, (below_drew1 (below_alloc (Below.refl w.heap.size w) _)).trans ((hb.mono (by omega)).trans (hb2.mono (by omega)))⟩

set_option maxHeartbeats 400000 in
theorem data_13 (d n m imm kind : Int) (w : World) : Calls Try.prog 21 #[instrV 13 d n m imm kind] w (ListPost (dataL 13 d n m) w) := by
  have HP : Hid (∀ e w', (∃ v, e = .returned v ∧ readRow w' v (dataL 13 d n m).length (intsZ (dataL 13 d n m)) ∧ Below w.heap.size w w') → ListPost (dataL 13 d n m) w e w') := fun _ _ h => h
  have I0 := InstrAt.new w 42 13 d n m imm kind
  have hlen := addL_len [] n
  simp only [List.length_nil] at hlen
  go_enter Try.func21, Try.ntmps21
  go_wp2_with fail
  obtain ⟨c0, c1, c2, c3, c4, c5⟩ := I0.cells
  have hsz0 : w.heap.size + 1 ≤ (w.alloc (.cells #[.int .i64 13, .int .i64 d, .int .i64 n, .int .i64 m, .int .i64 imm, .int .i64 kind] 42)).drew.heap.size := by simp
  go_region_held3 (fun w' => w'.cell? ⟨w.heap.size, 2, none⟩ = some (.int .i64 n) ∧ w'.cell? ⟨w.heap.size, 3, none⟩ = some (.int .i64 m)) (first | exact ⟨c2, c3⟩ | exact ⟨(hb.cell (p := ⟨w.heap.size, 2, none⟩) (Nat.lt_succ_self _)).trans c2, (hb.cell (p := ⟨w.heap.size, 3, none⟩) (Nat.lt_succ_self _)).trans c3⟩ | exact ⟨(hb2.cell (p := ⟨w.heap.size, 2, none⟩) (Nat.lt_succ_self _)).trans ((hb.cell (p := ⟨w.heap.size, 2, none⟩) (Nat.lt_succ_self _)).trans c2), (hb2.cell (p := ⟨w.heap.size, 3, none⟩) (Nat.lt_succ_self _)).trans ((hb.cell (p := ⟨w.heap.size, 3, none⟩) (Nat.lt_succ_self _)).trans c3)⟩) (first | (go_at_call 40; refine (add_any (w.heap.size + 1) _ (addL [] n) _ _ HO.out (by omega) hs1).mono ?_; rintro e w2 ⟨v2, rfl, hown2, hb2⟩; have HO2 := Lib.hid hown2; clear hown2) | (go_at_call 40; refine (add_any (w.heap.size + 1) _ [] _ _ (World.ownsRow_nil _ _ _ _) (by decide) hsz0).mono ?_; rintro e w1 ⟨v, rfl, hown, hb⟩; have HO := Lib.hid hown; clear hown; have hs1 : w.heap.size + 1 ≤ w1.heap.size := Nat.le_trans hsz0 hb.size))
  all_goals
    go_wp2
    go_ret
    exact HP.out _ _ ⟨_, rfl, readRow_own HO2.out, (below_drew1 (below_alloc (Below.refl w.heap.size w) _)).trans ((hb.mono (by omega)).trans (hb2.mono (by omega)))⟩

set_option maxHeartbeats 400000 in
theorem data_14 (d n m imm kind : Int) (w : World) : Calls Try.prog 21 #[instrV 14 d n m imm kind] w (ListPost (dataL 14 d n m) w) := by
  have HP : Hid (∀ e w', (∃ v, e = .returned v ∧ readRow w' v (dataL 14 d n m).length (intsZ (dataL 14 d n m)) ∧ Below w.heap.size w w') → ListPost (dataL 14 d n m) w e w') := fun _ _ h => h
  have I0 := InstrAt.new w 42 14 d n m imm kind
  go_enter Try.func21, Try.ntmps21
  go_wp2
  go_ret
  exact HP.out _ _ ⟨_, rfl, readNil _, below_alloc (Below.refl _ _) _⟩

set_option maxHeartbeats 400000 in
theorem data_15 (d n m imm kind : Int) (w : World) : Calls Try.prog 21 #[instrV 15 d n m imm kind] w (ListPost (dataL 15 d n m) w) := by
  have HP : Hid (∀ e w', (∃ v, e = .returned v ∧ readRow w' v (dataL 15 d n m).length (intsZ (dataL 15 d n m)) ∧ Below w.heap.size w w') → ListPost (dataL 15 d n m) w e w') := fun _ _ h => h
  have I0 := InstrAt.new w 42 15 d n m imm kind
  go_enter Try.func21, Try.ntmps21
  go_wp2_with fail
  refine (add_any (w.heap.size + 1) _ [] _ _ (World.ownsRow_nil _ _ _ _) (by decide) (by simp)).mono ?_
  rintro e w1 ⟨v, rfl, hown, hb⟩
  have HO := Lib.hid hown
  clear hown
  have HB := Lib.hid ((below_alloc (Below.refl w.heap.size w) (.cells #[.int .i64 15, .int .i64 d, .int .i64 n, .int .i64 m, .int .i64 imm, .int .i64 kind] 42)).trans (hb.mono (by omega)))
  go_wp2
  go_ret
  exact HP.out _ _ ⟨_, rfl, readRow_own HO.out, HB.out⟩

set_option maxHeartbeats 400000 in
theorem data_16 (d n m imm kind : Int) (w : World) : Calls Try.prog 21 #[instrV 16 d n m imm kind] w (ListPost (dataL 16 d n m) w) := by
  have HP : Hid (∀ e w', (∃ v, e = .returned v ∧ readRow w' v (dataL 16 d n m).length (intsZ (dataL 16 d n m)) ∧ Below w.heap.size w w') → ListPost (dataL 16 d n m) w e w') := fun _ _ h => h
  have I0 := InstrAt.new w 42 16 d n m imm kind
  go_enter Try.func21, Try.ntmps21
  go_wp2_with fail
  refine (add_any (w.heap.size + 1) _ [] _ _ (World.ownsRow_nil _ _ _ _) (by decide) (by simp)).mono ?_
  rintro e w1 ⟨v, rfl, hown, hb⟩
  have HO := Lib.hid hown
  clear hown
  have HB := Lib.hid ((below_alloc (Below.refl w.heap.size w) (.cells #[.int .i64 16, .int .i64 d, .int .i64 n, .int .i64 m, .int .i64 imm, .int .i64 kind] 42)).trans (hb.mono (by omega)))
  go_wp2
  go_ret
  exact HP.out _ _ ⟨_, rfl, readRow_own HO.out, HB.out⟩

set_option maxHeartbeats 400000 in
theorem data_17 (d n m imm kind : Int) (w : World) : Calls Try.prog 21 #[instrV 17 d n m imm kind] w (ListPost (dataL 17 d n m) w) := by
  have HP : Hid (∀ e w', (∃ v, e = .returned v ∧ readRow w' v (dataL 17 d n m).length (intsZ (dataL 17 d n m)) ∧ Below w.heap.size w w') → ListPost (dataL 17 d n m) w e w') := fun _ _ h => h
  have I0 := InstrAt.new w 42 17 d n m imm kind
  go_enter Try.func21, Try.ntmps21
  go_wp2
  go_ret
  exact HP.out _ _ ⟨_, rfl, (by have := readLit (w.alloc (.cells #[.int .i64 17, .int .i64 d, .int .i64 n, .int .i64 m, .int .i64 imm, .int .i64 kind] 42)) 3 32; rw [show dataL 17 d n m = [32] from rfl]; simpa using this), below_alloc (below_alloc (Below.refl _ _) _) _⟩

set_option maxHeartbeats 400000 in
theorem data_18 (d n m imm kind : Int) (w : World) : Calls Try.prog 21 #[instrV 18 d n m imm kind] w (ListPost (dataL 18 d n m) w) := by
  have HP : Hid (∀ e w', (∃ v, e = .returned v ∧ readRow w' v (dataL 18 d n m).length (intsZ (dataL 18 d n m)) ∧ Below w.heap.size w w') → ListPost (dataL 18 d n m) w e w') := fun _ _ h => h
  have I0 := InstrAt.new w 42 18 d n m imm kind
  go_enter Try.func21, Try.ntmps21
  go_wp2
  go_ret
  exact HP.out _ _ ⟨_, rfl, readNil _, below_alloc (Below.refl _ _) _⟩

set_option maxHeartbeats 400000 in
theorem data_19 (d n m imm kind : Int) (w : World) : Calls Try.prog 21 #[instrV 19 d n m imm kind] w (ListPost (dataL 19 d n m) w) := by
  have HP : Hid (∀ e w', (∃ v, e = .returned v ∧ readRow w' v (dataL 19 d n m).length (intsZ (dataL 19 d n m)) ∧ Below w.heap.size w w') → ListPost (dataL 19 d n m) w e w') := fun _ _ h => h
  have I0 := InstrAt.new w 42 19 d n m imm kind
  go_enter Try.func21, Try.ntmps21
  go_wp2
  go_ret
  exact HP.out _ _ ⟨_, rfl, readNil _, below_alloc (Below.refl _ _) _⟩

set_option maxHeartbeats 400000 in
theorem data_20 (d n m imm kind : Int) (w : World) : Calls Try.prog 21 #[instrV 20 d n m imm kind] w (ListPost (dataL 20 d n m) w) := by
  have HP : Hid (∀ e w', (∃ v, e = .returned v ∧ readRow w' v (dataL 20 d n m).length (intsZ (dataL 20 d n m)) ∧ Below w.heap.size w w') → ListPost (dataL 20 d n m) w e w') := fun _ _ h => h
  have I0 := InstrAt.new w 42 20 d n m imm kind
  go_enter Try.func21, Try.ntmps21
  go_wp2
  go_ret
  exact HP.out _ _ ⟨_, rfl, readNil _, below_alloc (Below.refl _ _) _⟩

set_option maxHeartbeats 400000 in
theorem data_21 (d n m imm kind : Int) (w : World) : Calls Try.prog 21 #[instrV 21 d n m imm kind] w (ListPost (dataL 21 d n m) w) := by
  have HP : Hid (∀ e w', (∃ v, e = .returned v ∧ readRow w' v (dataL 21 d n m).length (intsZ (dataL 21 d n m)) ∧ Below w.heap.size w w') → ListPost (dataL 21 d n m) w e w') := fun _ _ h => h
  have I0 := InstrAt.new w 42 21 d n m imm kind
  go_enter Try.func21, Try.ntmps21
  go_wp2_with fail
  refine (add_any (w.heap.size + 1) _ [] _ _ (World.ownsRow_nil _ _ _ _) (by decide) (by simp)).mono ?_
  rintro e w1 ⟨v, rfl, hown, hb⟩
  have HO := Lib.hid hown
  clear hown
  have HB := Lib.hid ((below_alloc (Below.refl w.heap.size w) (.cells #[.int .i64 21, .int .i64 d, .int .i64 n, .int .i64 m, .int .i64 imm, .int .i64 kind] 42)).trans (hb.mono (by omega)))
  go_wp2
  go_ret
  exact HP.out _ _ ⟨_, rfl, readRow_own HO.out, HB.out⟩

set_option maxHeartbeats 400000 in
theorem data_22 (d n m imm kind : Int) (w : World) : Calls Try.prog 21 #[instrV 22 d n m imm kind] w (ListPost (dataL 22 d n m) w) := by
  have HP : Hid (∀ e w', (∃ v, e = .returned v ∧ readRow w' v (dataL 22 d n m).length (intsZ (dataL 22 d n m)) ∧ Below w.heap.size w w') → ListPost (dataL 22 d n m) w e w') := fun _ _ h => h
  have I0 := InstrAt.new w 42 22 d n m imm kind
  go_enter Try.func21, Try.ntmps21
  go_wp2
  go_ret
  exact HP.out _ _ ⟨_, rfl, readNil _, below_alloc (Below.refl _ _) _⟩

set_option maxHeartbeats 400000 in
theorem data_23 (d n m imm kind : Int) (w : World) : Calls Try.prog 21 #[instrV 23 d n m imm kind] w (ListPost (dataL 23 d n m) w) := by
  have HP : Hid (∀ e w', (∃ v, e = .returned v ∧ readRow w' v (dataL 23 d n m).length (intsZ (dataL 23 d n m)) ∧ Below w.heap.size w w') → ListPost (dataL 23 d n m) w e w') := fun _ _ h => h
  have I0 := InstrAt.new w 42 23 d n m imm kind
  go_enter Try.func21, Try.ntmps21
  go_wp2
  go_ret
  exact HP.out _ _ ⟨_, rfl, readNil _, below_alloc (Below.refl _ _) _⟩

theorem data_any (op d n m imm kind : Int) (w : World) (h : opB op = true) : Calls Try.prog 21 #[instrV op d n m imm kind] w (ListPost (dataL op d n m) w) := by
  rcases opB_cases h with rfl | rfl | rfl | rfl | rfl | rfl | rfl | rfl | rfl | rfl | rfl | rfl | rfl | rfl | rfl | rfl | rfl | rfl | rfl | rfl | rfl | rfl | rfl
  · exact data_1 d n m imm kind w
  · exact data_2 d n m imm kind w
  · exact data_3 d n m imm kind w
  · exact data_4 d n m imm kind w
  · exact data_5 d n m imm kind w
  · exact data_6 d n m imm kind w
  · exact data_7 d n m imm kind w
  · exact data_8 d n m imm kind w
  · exact data_9 d n m imm kind w
  · exact data_10 d n m imm kind w
  · exact data_11 d n m imm kind w
  · exact data_12 d n m imm kind w
  · exact data_13 d n m imm kind w
  · exact data_14 d n m imm kind w
  · exact data_15 d n m imm kind w
  · exact data_16 d n m imm kind w
  · exact data_17 d n m imm kind w
  · exact data_18 d n m imm kind w
  · exact data_19 d n m imm kind w
  · exact data_20 d n m imm kind w
  · exact data_21 d n m imm kind w
  · exact data_22 d n m imm kind w
  · exact data_23 d n m imm kind w

end Go.Proofs.Ytikflhigenijdaa
