/- Which registers an instruction takes and sets: Sets. -/
import Derived.Test.YtikflhigenijdaaRegsTold
namespace Go.Proofs.Ytikflhigenijdaa
open Go.RowKit

set_option maxHeartbeats 400000 in
theorem sets_1 (d n m imm kind : Int) (w : World) : Calls Try.prog 19 #[instrV 1 d n m imm kind] w (ListPost (setsL 1 d) w) := by
  have HP : Hid (∀ e w', (∃ v, e = .returned v ∧ readRow w' v (setsL 1 d).length (intsZ (setsL 1 d)) ∧ Below w.heap.size w w') → ListPost (setsL 1 d) w e w') := fun _ _ h => h
  have I0 := InstrAt.new w 42 1 d n m imm kind
  go_enter Try.func19, Try.ntmps19
  go_wp2
  go_ret
  exact HP.out _ _ ⟨_, rfl, readNil _, below_alloc (Below.refl _ _) _⟩

set_option maxHeartbeats 400000 in
theorem sets_2 (d n m imm kind : Int) (w : World) : Calls Try.prog 19 #[instrV 2 d n m imm kind] w (ListPost (setsL 2 d) w) := by
  have HP : Hid (∀ e w', (∃ v, e = .returned v ∧ readRow w' v (setsL 2 d).length (intsZ (setsL 2 d)) ∧ Below w.heap.size w w') → ListPost (setsL 2 d) w e w') := fun _ _ h => h
  have I0 := InstrAt.new w 42 2 d n m imm kind
  go_enter Try.func19, Try.ntmps19
  go_wp2_with fail
  refine (add_any (w.heap.size + 1) _ [] _ _ (World.ownsRow_nil _ _ _ _) (by decide) (by simp)).mono ?_
  rintro e w1 ⟨v, rfl, hown, hb⟩
  have HO := Lib.hid hown
  clear hown
  have HB := Lib.hid ((below_alloc (Below.refl w.heap.size w) (.cells #[.int .i64 2, .int .i64 d, .int .i64 n, .int .i64 m, .int .i64 imm, .int .i64 kind] 42)).trans (hb.mono (by omega)))
  go_wp2
  go_ret
  exact HP.out _ _ ⟨_, rfl, readRow_own HO.out, HB.out⟩

set_option maxHeartbeats 400000 in
theorem sets_3 (d n m imm kind : Int) (w : World) : Calls Try.prog 19 #[instrV 3 d n m imm kind] w (ListPost (setsL 3 d) w) := by
  have HP : Hid (∀ e w', (∃ v, e = .returned v ∧ readRow w' v (setsL 3 d).length (intsZ (setsL 3 d)) ∧ Below w.heap.size w w') → ListPost (setsL 3 d) w e w') := fun _ _ h => h
  have I0 := InstrAt.new w 42 3 d n m imm kind
  go_enter Try.func19, Try.ntmps19
  go_wp2
  go_ret
  exact HP.out _ _ ⟨_, rfl, readNil _, below_alloc (Below.refl _ _) _⟩

set_option maxHeartbeats 400000 in
theorem sets_4 (d n m imm kind : Int) (w : World) : Calls Try.prog 19 #[instrV 4 d n m imm kind] w (ListPost (setsL 4 d) w) := by
  have HP : Hid (∀ e w', (∃ v, e = .returned v ∧ readRow w' v (setsL 4 d).length (intsZ (setsL 4 d)) ∧ Below w.heap.size w w') → ListPost (setsL 4 d) w e w') := fun _ _ h => h
  have I0 := InstrAt.new w 42 4 d n m imm kind
  go_enter Try.func19, Try.ntmps19
  go_wp2_with fail
  refine (add_any (w.heap.size + 1) _ [] _ _ (World.ownsRow_nil _ _ _ _) (by decide) (by simp)).mono ?_
  rintro e w1 ⟨v, rfl, hown, hb⟩
  have HO := Lib.hid hown
  clear hown
  have HB := Lib.hid ((below_alloc (Below.refl w.heap.size w) (.cells #[.int .i64 4, .int .i64 d, .int .i64 n, .int .i64 m, .int .i64 imm, .int .i64 kind] 42)).trans (hb.mono (by omega)))
  go_wp2
  go_ret
  exact HP.out _ _ ⟨_, rfl, readRow_own HO.out, HB.out⟩

set_option maxHeartbeats 400000 in
theorem sets_5 (d n m imm kind : Int) (w : World) : Calls Try.prog 19 #[instrV 5 d n m imm kind] w (ListPost (setsL 5 d) w) := by
  have HP : Hid (∀ e w', (∃ v, e = .returned v ∧ readRow w' v (setsL 5 d).length (intsZ (setsL 5 d)) ∧ Below w.heap.size w w') → ListPost (setsL 5 d) w e w') := fun _ _ h => h
  have I0 := InstrAt.new w 42 5 d n m imm kind
  go_enter Try.func19, Try.ntmps19
  go_wp2
  go_ret
  exact HP.out _ _ ⟨_, rfl, readNil _, below_alloc (Below.refl _ _) _⟩

set_option maxHeartbeats 400000 in
theorem sets_6 (d n m imm kind : Int) (w : World) : Calls Try.prog 19 #[instrV 6 d n m imm kind] w (ListPost (setsL 6 d) w) := by
  have HP : Hid (∀ e w', (∃ v, e = .returned v ∧ readRow w' v (setsL 6 d).length (intsZ (setsL 6 d)) ∧ Below w.heap.size w w') → ListPost (setsL 6 d) w e w') := fun _ _ h => h
  have I0 := InstrAt.new w 42 6 d n m imm kind
  go_enter Try.func19, Try.ntmps19
  go_wp2_with fail
  refine (add_any (w.heap.size + 1) _ [] _ _ (World.ownsRow_nil _ _ _ _) (by decide) (by simp)).mono ?_
  rintro e w1 ⟨v, rfl, hown, hb⟩
  have HO := Lib.hid hown
  clear hown
  have HB := Lib.hid ((below_alloc (Below.refl w.heap.size w) (.cells #[.int .i64 6, .int .i64 d, .int .i64 n, .int .i64 m, .int .i64 imm, .int .i64 kind] 42)).trans (hb.mono (by omega)))
  go_wp2
  go_ret
  exact HP.out _ _ ⟨_, rfl, readRow_own HO.out, HB.out⟩

set_option maxHeartbeats 400000 in
theorem sets_7 (d n m imm kind : Int) (w : World) : Calls Try.prog 19 #[instrV 7 d n m imm kind] w (ListPost (setsL 7 d) w) := by
  have HP : Hid (∀ e w', (∃ v, e = .returned v ∧ readRow w' v (setsL 7 d).length (intsZ (setsL 7 d)) ∧ Below w.heap.size w w') → ListPost (setsL 7 d) w e w') := fun _ _ h => h
  have I0 := InstrAt.new w 42 7 d n m imm kind
  go_enter Try.func19, Try.ntmps19
  go_wp2_with fail
  refine (add_any (w.heap.size + 1) _ [] _ _ (World.ownsRow_nil _ _ _ _) (by decide) (by simp)).mono ?_
  rintro e w1 ⟨v, rfl, hown, hb⟩
  have HO := Lib.hid hown
  clear hown
  have HB := Lib.hid ((below_alloc (Below.refl w.heap.size w) (.cells #[.int .i64 7, .int .i64 d, .int .i64 n, .int .i64 m, .int .i64 imm, .int .i64 kind] 42)).trans (hb.mono (by omega)))
  go_wp2
  go_ret
  exact HP.out _ _ ⟨_, rfl, readRow_own HO.out, HB.out⟩

set_option maxHeartbeats 400000 in
theorem sets_8 (d n m imm kind : Int) (w : World) : Calls Try.prog 19 #[instrV 8 d n m imm kind] w (ListPost (setsL 8 d) w) := by
  have HP : Hid (∀ e w', (∃ v, e = .returned v ∧ readRow w' v (setsL 8 d).length (intsZ (setsL 8 d)) ∧ Below w.heap.size w w') → ListPost (setsL 8 d) w e w') := fun _ _ h => h
  have I0 := InstrAt.new w 42 8 d n m imm kind
  go_enter Try.func19, Try.ntmps19
  go_wp2_with fail
  refine (add_any (w.heap.size + 1) _ [] _ _ (World.ownsRow_nil _ _ _ _) (by decide) (by simp)).mono ?_
  rintro e w1 ⟨v, rfl, hown, hb⟩
  have HO := Lib.hid hown
  clear hown
  have HB := Lib.hid ((below_alloc (Below.refl w.heap.size w) (.cells #[.int .i64 8, .int .i64 d, .int .i64 n, .int .i64 m, .int .i64 imm, .int .i64 kind] 42)).trans (hb.mono (by omega)))
  go_wp2
  go_ret
  exact HP.out _ _ ⟨_, rfl, readRow_own HO.out, HB.out⟩

set_option maxHeartbeats 400000 in
theorem sets_9 (d n m imm kind : Int) (w : World) : Calls Try.prog 19 #[instrV 9 d n m imm kind] w (ListPost (setsL 9 d) w) := by
  have HP : Hid (∀ e w', (∃ v, e = .returned v ∧ readRow w' v (setsL 9 d).length (intsZ (setsL 9 d)) ∧ Below w.heap.size w w') → ListPost (setsL 9 d) w e w') := fun _ _ h => h
  have I0 := InstrAt.new w 42 9 d n m imm kind
  go_enter Try.func19, Try.ntmps19
  go_wp2_with fail
  refine (add_any (w.heap.size + 1) _ [] _ _ (World.ownsRow_nil _ _ _ _) (by decide) (by simp)).mono ?_
  rintro e w1 ⟨v, rfl, hown, hb⟩
  have HO := Lib.hid hown
  clear hown
  have HB := Lib.hid ((below_alloc (Below.refl w.heap.size w) (.cells #[.int .i64 9, .int .i64 d, .int .i64 n, .int .i64 m, .int .i64 imm, .int .i64 kind] 42)).trans (hb.mono (by omega)))
  go_wp2
  go_ret
  exact HP.out _ _ ⟨_, rfl, readRow_own HO.out, HB.out⟩

set_option maxHeartbeats 400000 in
theorem sets_10 (d n m imm kind : Int) (w : World) : Calls Try.prog 19 #[instrV 10 d n m imm kind] w (ListPost (setsL 10 d) w) := by
  have HP : Hid (∀ e w', (∃ v, e = .returned v ∧ readRow w' v (setsL 10 d).length (intsZ (setsL 10 d)) ∧ Below w.heap.size w w') → ListPost (setsL 10 d) w e w') := fun _ _ h => h
  have I0 := InstrAt.new w 42 10 d n m imm kind
  go_enter Try.func19, Try.ntmps19
  go_wp2_with fail
  refine (add_any (w.heap.size + 1) _ [] _ _ (World.ownsRow_nil _ _ _ _) (by decide) (by simp)).mono ?_
  rintro e w1 ⟨v, rfl, hown, hb⟩
  have HO := Lib.hid hown
  clear hown
  have HB := Lib.hid ((below_alloc (Below.refl w.heap.size w) (.cells #[.int .i64 10, .int .i64 d, .int .i64 n, .int .i64 m, .int .i64 imm, .int .i64 kind] 42)).trans (hb.mono (by omega)))
  go_wp2
  go_ret
  exact HP.out _ _ ⟨_, rfl, readRow_own HO.out, HB.out⟩

set_option maxHeartbeats 400000 in
theorem sets_11 (d n m imm kind : Int) (w : World) : Calls Try.prog 19 #[instrV 11 d n m imm kind] w (ListPost (setsL 11 d) w) := by
  have HP : Hid (∀ e w', (∃ v, e = .returned v ∧ readRow w' v (setsL 11 d).length (intsZ (setsL 11 d)) ∧ Below w.heap.size w w') → ListPost (setsL 11 d) w e w') := fun _ _ h => h
  have I0 := InstrAt.new w 42 11 d n m imm kind
  go_enter Try.func19, Try.ntmps19
  go_wp2_with fail
  refine (add_any (w.heap.size + 1) _ [] _ _ (World.ownsRow_nil _ _ _ _) (by decide) (by simp)).mono ?_
  rintro e w1 ⟨v, rfl, hown, hb⟩
  have HO := Lib.hid hown
  clear hown
  have HB := Lib.hid ((below_alloc (Below.refl w.heap.size w) (.cells #[.int .i64 11, .int .i64 d, .int .i64 n, .int .i64 m, .int .i64 imm, .int .i64 kind] 42)).trans (hb.mono (by omega)))
  go_wp2
  go_ret
  exact HP.out _ _ ⟨_, rfl, readRow_own HO.out, HB.out⟩

set_option maxHeartbeats 400000 in
theorem sets_12 (d n m imm kind : Int) (w : World) : Calls Try.prog 19 #[instrV 12 d n m imm kind] w (ListPost (setsL 12 d) w) := by
  have HP : Hid (∀ e w', (∃ v, e = .returned v ∧ readRow w' v (setsL 12 d).length (intsZ (setsL 12 d)) ∧ Below w.heap.size w w') → ListPost (setsL 12 d) w e w') := fun _ _ h => h
  have I0 := InstrAt.new w 42 12 d n m imm kind
  go_enter Try.func19, Try.ntmps19
  go_wp2_with fail
  refine (add_any (w.heap.size + 1) _ [] _ _ (World.ownsRow_nil _ _ _ _) (by decide) (by simp)).mono ?_
  rintro e w1 ⟨v, rfl, hown, hb⟩
  have HO := Lib.hid hown
  clear hown
  have HB := Lib.hid ((below_alloc (Below.refl w.heap.size w) (.cells #[.int .i64 12, .int .i64 d, .int .i64 n, .int .i64 m, .int .i64 imm, .int .i64 kind] 42)).trans (hb.mono (by omega)))
  go_wp2
  go_ret
  exact HP.out _ _ ⟨_, rfl, readRow_own HO.out, HB.out⟩

set_option maxHeartbeats 400000 in
theorem sets_13 (d n m imm kind : Int) (w : World) : Calls Try.prog 19 #[instrV 13 d n m imm kind] w (ListPost (setsL 13 d) w) := by
  have HP : Hid (∀ e w', (∃ v, e = .returned v ∧ readRow w' v (setsL 13 d).length (intsZ (setsL 13 d)) ∧ Below w.heap.size w w') → ListPost (setsL 13 d) w e w') := fun _ _ h => h
  have I0 := InstrAt.new w 42 13 d n m imm kind
  have hlen := addL_len [] d
  go_enter Try.func19, Try.ntmps19
  go_wp2_with fail
  refine (add_any (w.heap.size + 1) _ [] _ _ (World.ownsRow_nil _ _ _ _) (by decide) (by simp)).mono ?_
  rintro e w1 ⟨v, rfl, hown, hb⟩
  have HO := Lib.hid hown
  clear hown
  have hs1 : w.heap.size + 1 ≤ w1.heap.size := by have := hb.size; simp at this; omega
  have HB := Lib.hid ((below_alloc (Below.refl w.heap.size w) (.cells #[.int .i64 13, .int .i64 d, .int .i64 n, .int .i64 m, .int .i64 imm, .int .i64 kind] 42)).trans (hb.mono (by omega)))
  go_wp2_with (at_builtin; refine app1 rfl _ _ 47 rfl (w.heap.size + 1) 3 (.int .i64 0) 8 elz rfl _ _ _ rfl HO.out _ rfl rfl ?c1 ?c2 ?c3 ?_)
  case c1 => unfold maxLen; simp at hlen; omega
  case c2 => simp at hlen; omega
  try (case c3 => exact hs1)
  intro v' w2 hown' _ hb2
  have HO' := Lib.hid hown'
  clear hown'
  go_wp2
  go_ret
  exact HP.out _ _ ⟨_, rfl, (by
    have := readRow_own HO'.out
    rw [← intsZ_snoc] at this
    rw [show setsL 13 d = addL [] d ++ [32] from rfl, List.length_append]
    exact this), HB.out.trans (hb2.mono (by omega))⟩

set_option maxHeartbeats 400000 in
theorem sets_14 (d n m imm kind : Int) (w : World) : Calls Try.prog 19 #[instrV 14 d n m imm kind] w (ListPost (setsL 14 d) w) := by
  have HP : Hid (∀ e w', (∃ v, e = .returned v ∧ readRow w' v (setsL 14 d).length (intsZ (setsL 14 d)) ∧ Below w.heap.size w w') → ListPost (setsL 14 d) w e w') := fun _ _ h => h
  have I0 := InstrAt.new w 42 14 d n m imm kind
  go_enter Try.func19, Try.ntmps19
  go_wp2
  go_ret
  exact HP.out _ _ ⟨_, rfl, readNil _, below_alloc (Below.refl _ _) _⟩

set_option maxHeartbeats 400000 in
theorem sets_15 (d n m imm kind : Int) (w : World) : Calls Try.prog 19 #[instrV 15 d n m imm kind] w (ListPost (setsL 15 d) w) := by
  have HP : Hid (∀ e w', (∃ v, e = .returned v ∧ readRow w' v (setsL 15 d).length (intsZ (setsL 15 d)) ∧ Below w.heap.size w w') → ListPost (setsL 15 d) w e w') := fun _ _ h => h
  have I0 := InstrAt.new w 42 15 d n m imm kind
  go_enter Try.func19, Try.ntmps19
  go_wp2
  go_ret
  exact HP.out _ _ ⟨_, rfl, readNil _, below_alloc (Below.refl _ _) _⟩

set_option maxHeartbeats 400000 in
theorem sets_16 (d n m imm kind : Int) (w : World) : Calls Try.prog 19 #[instrV 16 d n m imm kind] w (ListPost (setsL 16 d) w) := by
  have HP : Hid (∀ e w', (∃ v, e = .returned v ∧ readRow w' v (setsL 16 d).length (intsZ (setsL 16 d)) ∧ Below w.heap.size w w') → ListPost (setsL 16 d) w e w') := fun _ _ h => h
  have I0 := InstrAt.new w 42 16 d n m imm kind
  go_enter Try.func19, Try.ntmps19
  go_wp2
  go_ret
  exact HP.out _ _ ⟨_, rfl, readNil _, below_alloc (Below.refl _ _) _⟩

set_option maxHeartbeats 400000 in
theorem sets_17 (d n m imm kind : Int) (w : World) : Calls Try.prog 19 #[instrV 17 d n m imm kind] w (ListPost (setsL 17 d) w) := by
  have HP : Hid (∀ e w', (∃ v, e = .returned v ∧ readRow w' v (setsL 17 d).length (intsZ (setsL 17 d)) ∧ Below w.heap.size w w') → ListPost (setsL 17 d) w e w') := fun _ _ h => h
  have I0 := InstrAt.new w 42 17 d n m imm kind
  go_enter Try.func19, Try.ntmps19
  go_wp2
  go_ret
  exact HP.out _ _ ⟨_, rfl, readNil _, below_alloc (Below.refl _ _) _⟩

set_option maxHeartbeats 400000 in
theorem sets_18 (d n m imm kind : Int) (w : World) : Calls Try.prog 19 #[instrV 18 d n m imm kind] w (ListPost (setsL 18 d) w) := by
  have HP : Hid (∀ e w', (∃ v, e = .returned v ∧ readRow w' v (setsL 18 d).length (intsZ (setsL 18 d)) ∧ Below w.heap.size w w') → ListPost (setsL 18 d) w e w') := fun _ _ h => h
  have I0 := InstrAt.new w 42 18 d n m imm kind
  go_enter Try.func19, Try.ntmps19
  go_wp2
  go_ret
  exact HP.out _ _ ⟨_, rfl, readNil _, below_alloc (Below.refl _ _) _⟩

set_option maxHeartbeats 400000 in
theorem sets_19 (d n m imm kind : Int) (w : World) : Calls Try.prog 19 #[instrV 19 d n m imm kind] w (ListPost (setsL 19 d) w) := by
  have HP : Hid (∀ e w', (∃ v, e = .returned v ∧ readRow w' v (setsL 19 d).length (intsZ (setsL 19 d)) ∧ Below w.heap.size w w') → ListPost (setsL 19 d) w e w') := fun _ _ h => h
  have I0 := InstrAt.new w 42 19 d n m imm kind
  go_enter Try.func19, Try.ntmps19
  go_wp2
  go_ret
  exact HP.out _ _ ⟨_, rfl, readNil _, below_alloc (Below.refl _ _) _⟩

set_option maxHeartbeats 400000 in
theorem sets_20 (d n m imm kind : Int) (w : World) : Calls Try.prog 19 #[instrV 20 d n m imm kind] w (ListPost (setsL 20 d) w) := by
  have HP : Hid (∀ e w', (∃ v, e = .returned v ∧ readRow w' v (setsL 20 d).length (intsZ (setsL 20 d)) ∧ Below w.heap.size w w') → ListPost (setsL 20 d) w e w') := fun _ _ h => h
  have I0 := InstrAt.new w 42 20 d n m imm kind
  go_enter Try.func19, Try.ntmps19
  go_wp2
  go_ret
  exact HP.out _ _ ⟨_, rfl, readNil _, below_alloc (Below.refl _ _) _⟩

set_option maxHeartbeats 400000 in
theorem sets_21 (d n m imm kind : Int) (w : World) : Calls Try.prog 19 #[instrV 21 d n m imm kind] w (ListPost (setsL 21 d) w) := by
  have HP : Hid (∀ e w', (∃ v, e = .returned v ∧ readRow w' v (setsL 21 d).length (intsZ (setsL 21 d)) ∧ Below w.heap.size w w') → ListPost (setsL 21 d) w e w') := fun _ _ h => h
  have I0 := InstrAt.new w 42 21 d n m imm kind
  go_enter Try.func19, Try.ntmps19
  go_wp2
  go_ret
  exact HP.out _ _ ⟨_, rfl, readNil _, below_alloc (Below.refl _ _) _⟩

set_option maxHeartbeats 400000 in
theorem sets_22 (d n m imm kind : Int) (w : World) : Calls Try.prog 19 #[instrV 22 d n m imm kind] w (ListPost (setsL 22 d) w) := by
  have HP : Hid (∀ e w', (∃ v, e = .returned v ∧ readRow w' v (setsL 22 d).length (intsZ (setsL 22 d)) ∧ Below w.heap.size w w') → ListPost (setsL 22 d) w e w') := fun _ _ h => h
  have I0 := InstrAt.new w 42 22 d n m imm kind
  go_enter Try.func19, Try.ntmps19
  go_wp2
  go_ret
  exact HP.out _ _ ⟨_, rfl, readNil _, below_alloc (Below.refl _ _) _⟩

set_option maxHeartbeats 400000 in
theorem sets_23 (d n m imm kind : Int) (w : World) : Calls Try.prog 19 #[instrV 23 d n m imm kind] w (ListPost (setsL 23 d) w) := by
  have HP : Hid (∀ e w', (∃ v, e = .returned v ∧ readRow w' v (setsL 23 d).length (intsZ (setsL 23 d)) ∧ Below w.heap.size w w') → ListPost (setsL 23 d) w e w') := fun _ _ h => h
  have I0 := InstrAt.new w 42 23 d n m imm kind
  go_enter Try.func19, Try.ntmps19
  go_wp2_with fail
  refine (add_any (w.heap.size + 1) _ [] _ _ (World.ownsRow_nil _ _ _ _) (by decide) (by simp)).mono ?_
  rintro e w1 ⟨v, rfl, hown, hb⟩
  have HO := Lib.hid hown
  clear hown
  have HB := Lib.hid ((below_alloc (Below.refl w.heap.size w) (.cells #[.int .i64 23, .int .i64 d, .int .i64 n, .int .i64 m, .int .i64 imm, .int .i64 kind] 42)).trans (hb.mono (by omega)))
  go_wp2
  go_ret
  exact HP.out _ _ ⟨_, rfl, readRow_own HO.out, HB.out⟩

theorem sets_any (op d n m imm kind : Int) (w : World) (h : opB op = true) : Calls Try.prog 19 #[instrV op d n m imm kind] w (ListPost (setsL op d) w) := by
  rcases opB_cases h with rfl | rfl | rfl | rfl | rfl | rfl | rfl | rfl | rfl | rfl | rfl | rfl | rfl | rfl | rfl | rfl | rfl | rfl | rfl | rfl | rfl | rfl | rfl
  · exact sets_1 d n m imm kind w
  · exact sets_2 d n m imm kind w
  · exact sets_3 d n m imm kind w
  · exact sets_4 d n m imm kind w
  · exact sets_5 d n m imm kind w
  · exact sets_6 d n m imm kind w
  · exact sets_7 d n m imm kind w
  · exact sets_8 d n m imm kind w
  · exact sets_9 d n m imm kind w
  · exact sets_10 d n m imm kind w
  · exact sets_11 d n m imm kind w
  · exact sets_12 d n m imm kind w
  · exact sets_13 d n m imm kind w
  · exact sets_14 d n m imm kind w
  · exact sets_15 d n m imm kind w
  · exact sets_16 d n m imm kind w
  · exact sets_17 d n m imm kind w
  · exact sets_18 d n m imm kind w
  · exact sets_19 d n m imm kind w
  · exact sets_20 d n m imm kind w
  · exact sets_21 d n m imm kind w
  · exact sets_22 d n m imm kind w
  · exact sets_23 d n m imm kind w

end Go.Proofs.Ytikflhigenijdaa
