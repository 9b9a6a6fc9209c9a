/- Which registers an instruction takes and sets: regs and granuleref05. -/
import Derived.Test.YtikflhigenijdaaRegsLists
import Derived.Test.YtikflhigenijdaaRegsRef
import Derived.Test.YtikflhigenijdaaRight3
import Derived.Test.YtikflhigenijdaaInstrAt
import Derived.Deep.RegionHeld3
namespace Go.Proofs.Ytikflhigenijdaa
open Go.RowKit

def addrL (op n : Int) : List Int := if op = 2 ∨ op = 3 ∨ op = 4 ∨ op = 5 then addL [] n else []
def dataL (op d n m : Int) : List Int :=
  if op = 3 ∨ op = 5 ∨ op = 15 ∨ op = 16 ∨ op = 21 then addL [] d else if op = 7 then addL [] n else
  if op = 8 ∨ op = 9 ∨ op = 10 ∨ op = 11 ∨ op = 12 ∨ op = 13 then addL (addL [] n) m else if op = 17 then [32] else []
def setsL (op d : Int) : List Int :=
  if op = 2 ∨ op = 4 ∨ op = 6 ∨ op = 7 ∨ op = 8 ∨ op = 9 ∨ op = 10 ∨ op = 11 ∨ op = 12 ∨ op = 23 then addL [] d else if op = 13 then addL [] d ++ [32] else []

def ListPost (l : List Int) (w : World) (e : Ending) (w' : World) : Prop := ∃ v, e = .returned v ∧ readRow w' v l.length (intsZ l) ∧ Below w.heap.size w w'
theorem addL_len (l : List Int) (n : Int) : (addL l n).length ≤ l.length + 1 := by unfold addL; split <;> simp
theorem below_drew1 {B : Nat} {a w : World} (h : Below B a w) : Below B a w.drew := h.drew
theorem readNil (w : World) : readRow w (.slice none 0 0) ([] : List Int).length (intsZ []) := ⟨rfl, .inl ⟨rfl, rfl⟩⟩
theorem readLit (w : World) (T : TypeId) (z : Int) : readRow (w.alloc (.cells #[.int .i64 z] T)) (.slice (some ⟨w.heap.size, 0, none⟩) 1 1) [z].length (intsZ [z]) :=
  ⟨rfl, .inr ⟨w.heap.size, 0, 1, rfl, Nat.le_refl 1, show 1 ≤ maxLen by decide, fun j hj => by
    rw [cell_of_row _ _ _ _ _ _ (heap_alloc_new w _), Nat.zero_add]
    match j, hj with
    | 0, _ => rfl⟩⟩

set_option maxHeartbeats 400000 in
theorem address_1 (d n m imm kind : Int) (w : World) : Calls Try.prog 24 #[instrV 1 d n m imm kind] w (ListPost (addrL 1 n) w) := by
  have HP : Hid (∀ e w', (∃ v, e = .returned v ∧ readRow w' v (addrL 1 n).length (intsZ (addrL 1 n)) ∧ Below w.heap.size w w') → ListPost (addrL 1 n) w e w') := fun _ _ h => h
  have I0 := InstrAt.new w 42 1 d n m imm kind
  go_enter Try.func24, Try.ntmps24
  go_wp2
  go_ret
  exact HP.out _ _ ⟨_, rfl, readNil _, below_alloc (Below.refl _ _) _⟩

set_option maxHeartbeats 400000 in
theorem address_2 (d n m imm kind : Int) (w : World) : Calls Try.prog 24 #[instrV 2 d n m imm kind] w (ListPost (addrL 2 n) w) := by
  have HP : Hid (∀ e w', (∃ v, e = .returned v ∧ readRow w' v (addrL 2 n).length (intsZ (addrL 2 n)) ∧ Below w.heap.size w w') → ListPost (addrL 2 n) w e w') := fun _ _ h => h
  have I0 := InstrAt.new w 42 2 d n m imm kind
  go_enter Try.func24, Try.ntmps24
  go_wp2_with fail
  refine (add_any (w.heap.size + 1) _ [] _ _ (World.ownsRow_nil _ _ _ _) (by decide) (by simp)).mono ?_
  rintro e w1 ⟨v, rfl, hown, hb⟩
  have HO := Lib.hid hown
  clear hown
  have HB := Lib.hid ((below_alloc (Below.refl w.heap.size w) (.cells #[.int .i64 2, .int .i64 d, .int .i64 n, .int .i64 m, .int .i64 imm, .int .i64 kind] 42)).trans (hb.mono (by omega)))
  go_wp2
  go_ret
  exact HP.out _ _ ⟨_, rfl, readRow_own HO.out, HB.out⟩

set_option maxHeartbeats 400000 in
theorem address_3 (d n m imm kind : Int) (w : World) : Calls Try.prog 24 #[instrV 3 d n m imm kind] w (ListPost (addrL 3 n) w) := by
  have HP : Hid (∀ e w', (∃ v, e = .returned v ∧ readRow w' v (addrL 3 n).length (intsZ (addrL 3 n)) ∧ Below w.heap.size w w') → ListPost (addrL 3 n) w e w') := fun _ _ h => h
  have I0 := InstrAt.new w 42 3 d n m imm kind
  go_enter Try.func24, Try.ntmps24
  go_wp2_with fail
  refine (add_any (w.heap.size + 1) _ [] _ _ (World.ownsRow_nil _ _ _ _) (by decide) (by simp)).mono ?_
  rintro e w1 ⟨v, rfl, hown, hb⟩
  have HO := Lib.hid hown
  clear hown
  have HB := Lib.hid ((below_alloc (Below.refl w.heap.size w) (.cells #[.int .i64 3, .int .i64 d, .int .i64 n, .int .i64 m, .int .i64 imm, .int .i64 kind] 42)).trans (hb.mono (by omega)))
  go_wp2
  go_ret
  exact HP.out _ _ ⟨_, rfl, readRow_own HO.out, HB.out⟩

set_option maxHeartbeats 400000 in
theorem address_4 (d n m imm kind : Int) (w : World) : Calls Try.prog 24 #[instrV 4 d n m imm kind] w (ListPost (addrL 4 n) w) := by
  have HP : Hid (∀ e w', (∃ v, e = .returned v ∧ readRow w' v (addrL 4 n).length (intsZ (addrL 4 n)) ∧ Below w.heap.size w w') → ListPost (addrL 4 n) w e w') := fun _ _ h => h
  have I0 := InstrAt.new w 42 4 d n m imm kind
  go_enter Try.func24, Try.ntmps24
  go_wp2_with fail
  refine (add_any (w.heap.size + 1) _ [] _ _ (World.ownsRow_nil _ _ _ _) (by decide) (by simp)).mono ?_
  rintro e w1 ⟨v, rfl, hown, hb⟩
  have HO := Lib.hid hown
  clear hown
  have HB := Lib.hid ((below_alloc (Below.refl w.heap.size w) (.cells #[.int .i64 4, .int .i64 d, .int .i64 n, .int .i64 m, .int .i64 imm, .int .i64 kind] 42)).trans (hb.mono (by omega)))
  go_wp2
  go_ret
  exact HP.out _ _ ⟨_, rfl, readRow_own HO.out, HB.out⟩

set_option maxHeartbeats 400000 in
theorem address_5 (d n m imm kind : Int) (w : World) : Calls Try.prog 24 #[instrV 5 d n m imm kind] w (ListPost (addrL 5 n) w) := by
  have HP : Hid (∀ e w', (∃ v, e = .returned v ∧ readRow w' v (addrL 5 n).length (intsZ (addrL 5 n)) ∧ Below w.heap.size w w') → ListPost (addrL 5 n) w e w') := fun _ _ h => h
  have I0 := InstrAt.new w 42 5 d n m imm kind
  go_enter Try.func24, Try.ntmps24
  go_wp2_with fail
  refine (add_any (w.heap.size + 1) _ [] _ _ (World.ownsRow_nil _ _ _ _) (by decide) (by simp)).mono ?_
  rintro e w1 ⟨v, rfl, hown, hb⟩
  have HO := Lib.hid hown
  clear hown
  have HB := Lib.hid ((below_alloc (Below.refl w.heap.size w) (.cells #[.int .i64 5, .int .i64 d, .int .i64 n, .int .i64 m, .int .i64 imm, .int .i64 kind] 42)).trans (hb.mono (by omega)))
  go_wp2
  go_ret
  exact HP.out _ _ ⟨_, rfl, readRow_own HO.out, HB.out⟩

set_option maxHeartbeats 400000 in
theorem address_6 (d n m imm kind : Int) (w : World) : Calls Try.prog 24 #[instrV 6 d n m imm kind] w (ListPost (addrL 6 n) w) := by
  have HP : Hid (∀ e w', (∃ v, e = .returned v ∧ readRow w' v (addrL 6 n).length (intsZ (addrL 6 n)) ∧ Below w.heap.size w w') → ListPost (addrL 6 n) w e w') := fun _ _ h => h
  have I0 := InstrAt.new w 42 6 d n m imm kind
  go_enter Try.func24, Try.ntmps24
  go_wp2
  go_ret
  exact HP.out _ _ ⟨_, rfl, readNil _, below_alloc (Below.refl _ _) _⟩

set_option maxHeartbeats 400000 in
theorem address_7 (d n m imm kind : Int) (w : World) : Calls Try.prog 24 #[instrV 7 d n m imm kind] w (ListPost (addrL 7 n) w) := by
  have HP : Hid (∀ e w', (∃ v, e = .returned v ∧ readRow w' v (addrL 7 n).length (intsZ (addrL 7 n)) ∧ Below w.heap.size w w') → ListPost (addrL 7 n) w e w') := fun _ _ h => h
  have I0 := InstrAt.new w 42 7 d n m imm kind
  go_enter Try.func24, Try.ntmps24
  go_wp2
  go_ret
  exact HP.out _ _ ⟨_, rfl, readNil _, below_alloc (Below.refl _ _) _⟩

set_option maxHeartbeats 400000 in
theorem address_8 (d n m imm kind : Int) (w : World) : Calls Try.prog 24 #[instrV 8 d n m imm kind] w (ListPost (addrL 8 n) w) := by
  have HP : Hid (∀ e w', (∃ v, e = .returned v ∧ readRow w' v (addrL 8 n).length (intsZ (addrL 8 n)) ∧ Below w.heap.size w w') → ListPost (addrL 8 n) w e w') := fun _ _ h => h
  have I0 := InstrAt.new w 42 8 d n m imm kind
  go_enter Try.func24, Try.ntmps24
  go_wp2
  go_ret
  exact HP.out _ _ ⟨_, rfl, readNil _, below_alloc (Below.refl _ _) _⟩

set_option maxHeartbeats 400000 in
theorem address_9 (d n m imm kind : Int) (w : World) : Calls Try.prog 24 #[instrV 9 d n m imm kind] w (ListPost (addrL 9 n) w) := by
  have HP : Hid (∀ e w', (∃ v, e = .returned v ∧ readRow w' v (addrL 9 n).length (intsZ (addrL 9 n)) ∧ Below w.heap.size w w') → ListPost (addrL 9 n) w e w') := fun _ _ h => h
  have I0 := InstrAt.new w 42 9 d n m imm kind
  go_enter Try.func24, Try.ntmps24
  go_wp2
  go_ret
  exact HP.out _ _ ⟨_, rfl, readNil _, below_alloc (Below.refl _ _) _⟩

set_option maxHeartbeats 400000 in
theorem address_10 (d n m imm kind : Int) (w : World) : Calls Try.prog 24 #[instrV 10 d n m imm kind] w (ListPost (addrL 10 n) w) := by
  have HP : Hid (∀ e w', (∃ v, e = .returned v ∧ readRow w' v (addrL 10 n).length (intsZ (addrL 10 n)) ∧ Below w.heap.size w w') → ListPost (addrL 10 n) w e w') := fun _ _ h => h
  have I0 := InstrAt.new w 42 10 d n m imm kind
  go_enter Try.func24, Try.ntmps24
  go_wp2
  go_ret
  exact HP.out _ _ ⟨_, rfl, readNil _, below_alloc (Below.refl _ _) _⟩

set_option maxHeartbeats 400000 in
theorem address_11 (d n m imm kind : Int) (w : World) : Calls Try.prog 24 #[instrV 11 d n m imm kind] w (ListPost (addrL 11 n) w) := by
  have HP : Hid (∀ e w', (∃ v, e = .returned v ∧ readRow w' v (addrL 11 n).length (intsZ (addrL 11 n)) ∧ Below w.heap.size w w') → ListPost (addrL 11 n) w e w') := fun _ _ h => h
  have I0 := InstrAt.new w 42 11 d n m imm kind
  go_enter Try.func24, Try.ntmps24
  go_wp2
  go_ret
  exact HP.out _ _ ⟨_, rfl, readNil _, below_alloc (Below.refl _ _) _⟩

set_option maxHeartbeats 400000 in
theorem address_12 (d n m imm kind : Int) (w : World) : Calls Try.prog 24 #[instrV 12 d n m imm kind] w (ListPost (addrL 12 n) w) := by
  have HP : Hid (∀ e w', (∃ v, e = .returned v ∧ readRow w' v (addrL 12 n).length (intsZ (addrL 12 n)) ∧ Below w.heap.size w w') → ListPost (addrL 12 n) w e w') := fun _ _ h => h
  have I0 := InstrAt.new w 42 12 d n m imm kind
  go_enter Try.func24, Try.ntmps24
  go_wp2
  go_ret
  exact HP.out _ _ ⟨_, rfl, readNil _, below_alloc (Below.refl _ _) _⟩

set_option maxHeartbeats 400000 in
theorem address_13 (d n m imm kind : Int) (w : World) : Calls Try.prog 24 #[instrV 13 d n m imm kind] w (ListPost (addrL 13 n) w) := by
  have HP : Hid (∀ e w', (∃ v, e = .returned v ∧ readRow w' v (addrL 13 n).length (intsZ (addrL 13 n)) ∧ Below w.heap.size w w') → ListPost (addrL 13 n) w e w') := fun _ _ h => h
  have I0 := InstrAt.new w 42 13 d n m imm kind
  go_enter Try.func24, Try.ntmps24
  go_wp2
  go_ret
  exact HP.out _ _ ⟨_, rfl, readNil _, below_alloc (Below.refl _ _) _⟩

set_option maxHeartbeats 400000 in
theorem address_14 (d n m imm kind : Int) (w : World) : Calls Try.prog 24 #[instrV 14 d n m imm kind] w (ListPost (addrL 14 n) w) := by
  have HP : Hid (∀ e w', (∃ v, e = .returned v ∧ readRow w' v (addrL 14 n).length (intsZ (addrL 14 n)) ∧ Below w.heap.size w w') → ListPost (addrL 14 n) w e w') := fun _ _ h => h
  have I0 := InstrAt.new w 42 14 d n m imm kind
  go_enter Try.func24, Try.ntmps24
  go_wp2
  go_ret
  exact HP.out _ _ ⟨_, rfl, readNil _, below_alloc (Below.refl _ _) _⟩

set_option maxHeartbeats 400000 in
theorem address_15 (d n m imm kind : Int) (w : World) : Calls Try.prog 24 #[instrV 15 d n m imm kind] w (ListPost (addrL 15 n) w) := by
  have HP : Hid (∀ e w', (∃ v, e = .returned v ∧ readRow w' v (addrL 15 n).length (intsZ (addrL 15 n)) ∧ Below w.heap.size w w') → ListPost (addrL 15 n) w e w') := fun _ _ h => h
  have I0 := InstrAt.new w 42 15 d n m imm kind
  go_enter Try.func24, Try.ntmps24
  go_wp2
  go_ret
  exact HP.out _ _ ⟨_, rfl, readNil _, below_alloc (Below.refl _ _) _⟩

set_option maxHeartbeats 400000 in
theorem address_16 (d n m imm kind : Int) (w : World) : Calls Try.prog 24 #[instrV 16 d n m imm kind] w (ListPost (addrL 16 n) w) := by
  have HP : Hid (∀ e w', (∃ v, e = .returned v ∧ readRow w' v (addrL 16 n).length (intsZ (addrL 16 n)) ∧ Below w.heap.size w w') → ListPost (addrL 16 n) w e w') := fun _ _ h => h
  have I0 := InstrAt.new w 42 16 d n m imm kind
  go_enter Try.func24, Try.ntmps24
  go_wp2
  go_ret
  exact HP.out _ _ ⟨_, rfl, readNil _, below_alloc (Below.refl _ _) _⟩

set_option maxHeartbeats 400000 in
theorem address_17 (d n m imm kind : Int) (w : World) : Calls Try.prog 24 #[instrV 17 d n m imm kind] w (ListPost (addrL 17 n) w) := by
  have HP : Hid (∀ e w', (∃ v, e = .returned v ∧ readRow w' v (addrL 17 n).length (intsZ (addrL 17 n)) ∧ Below w.heap.size w w') → ListPost (addrL 17 n) w e w') := fun _ _ h => h
  have I0 := InstrAt.new w 42 17 d n m imm kind
  go_enter Try.func24, Try.ntmps24
  go_wp2
  go_ret
  exact HP.out _ _ ⟨_, rfl, readNil _, below_alloc (Below.refl _ _) _⟩

set_option maxHeartbeats 400000 in
theorem address_18 (d n m imm kind : Int) (w : World) : Calls Try.prog 24 #[instrV 18 d n m imm kind] w (ListPost (addrL 18 n) w) := by
  have HP : Hid (∀ e w', (∃ v, e = .returned v ∧ readRow w' v (addrL 18 n).length (intsZ (addrL 18 n)) ∧ Below w.heap.size w w') → ListPost (addrL 18 n) w e w') := fun _ _ h => h
  have I0 := InstrAt.new w 42 18 d n m imm kind
  go_enter Try.func24, Try.ntmps24
  go_wp2
  go_ret
  exact HP.out _ _ ⟨_, rfl, readNil _, below_alloc (Below.refl _ _) _⟩

set_option maxHeartbeats 400000 in
theorem address_19 (d n m imm kind : Int) (w : World) : Calls Try.prog 24 #[instrV 19 d n m imm kind] w (ListPost (addrL 19 n) w) := by
  have HP : Hid (∀ e w', (∃ v, e = .returned v ∧ readRow w' v (addrL 19 n).length (intsZ (addrL 19 n)) ∧ Below w.heap.size w w') → ListPost (addrL 19 n) w e w') := fun _ _ h => h
  have I0 := InstrAt.new w 42 19 d n m imm kind
  go_enter Try.func24, Try.ntmps24
  go_wp2
  go_ret
  exact HP.out _ _ ⟨_, rfl, readNil _, below_alloc (Below.refl _ _) _⟩

set_option maxHeartbeats 400000 in
theorem address_20 (d n m imm kind : Int) (w : World) : Calls Try.prog 24 #[instrV 20 d n m imm kind] w (ListPost (addrL 20 n) w) := by
  have HP : Hid (∀ e w', (∃ v, e = .returned v ∧ readRow w' v (addrL 20 n).length (intsZ (addrL 20 n)) ∧ Below w.heap.size w w') → ListPost (addrL 20 n) w e w') := fun _ _ h => h
  have I0 := InstrAt.new w 42 20 d n m imm kind
  go_enter Try.func24, Try.ntmps24
  go_wp2
  go_ret
  exact HP.out _ _ ⟨_, rfl, readNil _, below_alloc (Below.refl _ _) _⟩

set_option maxHeartbeats 400000 in
theorem address_21 (d n m imm kind : Int) (w : World) : Calls Try.prog 24 #[instrV 21 d n m imm kind] w (ListPost (addrL 21 n) w) := by
  have HP : Hid (∀ e w', (∃ v, e = .returned v ∧ readRow w' v (addrL 21 n).length (intsZ (addrL 21 n)) ∧ Below w.heap.size w w') → ListPost (addrL 21 n) w e w') := fun _ _ h => h
  have I0 := InstrAt.new w 42 21 d n m imm kind
  go_enter Try.func24, Try.ntmps24
  go_wp2
  go_ret
  exact HP.out _ _ ⟨_, rfl, readNil _, below_alloc (Below.refl _ _) _⟩

set_option maxHeartbeats 400000 in
theorem address_22 (d n m imm kind : Int) (w : World) : Calls Try.prog 24 #[instrV 22 d n m imm kind] w (ListPost (addrL 22 n) w) := by
  have HP : Hid (∀ e w', (∃ v, e = .returned v ∧ readRow w' v (addrL 22 n).length (intsZ (addrL 22 n)) ∧ Below w.heap.size w w') → ListPost (addrL 22 n) w e w') := fun _ _ h => h
  have I0 := InstrAt.new w 42 22 d n m imm kind
  go_enter Try.func24, Try.ntmps24
  go_wp2
  go_ret
  exact HP.out _ _ ⟨_, rfl, readNil _, below_alloc (Below.refl _ _) _⟩

set_option maxHeartbeats 400000 in
theorem address_23 (d n m imm kind : Int) (w : World) : Calls Try.prog 24 #[instrV 23 d n m imm kind] w (ListPost (addrL 23 n) w) := by
  have HP : Hid (∀ e w', (∃ v, e = .returned v ∧ readRow w' v (addrL 23 n).length (intsZ (addrL 23 n)) ∧ Below w.heap.size w w') → ListPost (addrL 23 n) w e w') := fun _ _ h => h
  have I0 := InstrAt.new w 42 23 d n m imm kind
  go_enter Try.func24, Try.ntmps24
  go_wp2
  go_ret
  exact HP.out _ _ ⟨_, rfl, readNil _, below_alloc (Below.refl _ _) _⟩

theorem address_any (op d n m imm kind : Int) (w : World) (h : opB op = true) : Calls Try.prog 24 #[instrV op d n m imm kind] w (ListPost (addrL op n) w) := by
  rcases opB_cases h with rfl | rfl | rfl | rfl | rfl | rfl | rfl | rfl | rfl | rfl | rfl | rfl | rfl | rfl | rfl | rfl | rfl | rfl | rfl | rfl | rfl | rfl | rfl
  · exact address_1 d n m imm kind w
  · exact address_2 d n m imm kind w
  · exact address_3 d n m imm kind w
  · exact address_4 d n m imm kind w
  · exact address_5 d n m imm kind w
  · exact address_6 d n m imm kind w
  · exact address_7 d n m imm kind w
  · exact address_8 d n m imm kind w
  · exact address_9 d n m imm kind w
  · exact address_10 d n m imm kind w
  · exact address_11 d n m imm kind w
  · exact address_12 d n m imm kind w
  · exact address_13 d n m imm kind w
  · exact address_14 d n m imm kind w
  · exact address_15 d n m imm kind w
  · exact address_16 d n m imm kind w
  · exact address_17 d n m imm kind w
  · exact address_18 d n m imm kind w
  · exact address_19 d n m imm kind w
  · exact address_20 d n m imm kind w
  · exact address_21 d n m imm kind w
  · exact address_22 d n m imm kind w
  · exact address_23 d n m imm kind w

end Go.Proofs.Ytikflhigenijdaa
