/- Which registers an instruction takes and sets: granuleref05. -/
import Derived.Test.YtikflhigenijdaaRegsTold
import Derived.Test.YtikflhigenijdaaRegsNo31
namespace Go.Proofs.Ytikflhigenijdaa
open Go.RowKit

theorem is_lit (op : Int) (zs : List Int) (r : Bool) (hr : inL op zs = r) {b off len cap : Nat} {w : World} (hlen : len = zs.length) (hsmall : len ≤ 1000)
    (hc : ∀ j, j < zs.length → w.cell? ⟨b, off + j, none⟩ = some (.int .i64 (zs.getD j 0))) :
    Calls Try.prog 39 #[.int .i64 op, .slice (some ⟨b, off, none⟩) len cap] w fun e w' => e = .returned (.bool r) ∧ w = w' := by
  subst hr; exact is_any op zs hlen hsmall hc

theorem rload_any (op d n m imm kind : Int) (w : World) :
    Calls Try.prog 29 #[instrV op d n m imm kind] w fun e w' => e = .returned (.bool (loadB op)) ∧ Below w.heap.size w w' := by
  have H := Lib.hid (show inL op [2, 4] = loadB op by
    simp only [inL, loadB, List.any_cons, List.any_nil, Bool.or_false]
    rw [show ((2 : Int) == op) = (op == 2) from BEq.comm, show ((4 : Int) == op) = (op == 4) from BEq.comm])
  go_enter Try.func29, Try.ntmps29
  go_wp2_with (go_at_call 39; refine (is_any _ [2, 4] rfl (by decide) (lit_cells .i64 [2, 4] _ _ _ (by simp))).mono ?_; rintro e w' ⟨rfl, rfl⟩)
  go_ret
  exact ⟨ret_bool H.out, below_alloc (below_alloc (Below.refl _ _) _) _⟩
theorem rstore_any (op d n m imm kind : Int) (w : World) :
    Calls Try.prog 31 #[instrV op d n m imm kind] w fun e w' => e = .returned (.bool (storeB op)) ∧ Below w.heap.size w w' := by
  have H := Lib.hid (show inL op [3, 5] = storeB op by
    simp only [inL, storeB, List.any_cons, List.any_nil, Bool.or_false]
    rw [show ((3 : Int) == op) = (op == 3) from BEq.comm, show ((5 : Int) == op) = (op == 5) from BEq.comm])
  go_enter Try.func31, Try.ntmps31
  go_wp2_with (go_at_call 39; refine (is_any _ [3, 5] rfl (by decide) (lit_cells .i64 [3, 5] _ _ _ (by simp))).mono ?_; rintro e w' ⟨rfl, rfl⟩)
  go_ret
  exact ⟨ret_bool H.out, below_alloc (below_alloc (Below.refl _ _) _) _⟩
theorem rload_lit (op d n m imm kind : Int) (w : World) (r : Bool) (hr : loadB op = r) :
    Calls Try.prog 29 #[instrV op d n m imm kind] w fun e w' => e = .returned (.bool r) ∧ Below w.heap.size w w' := by subst hr; exact rload_any op d n m imm kind w
theorem rstore_lit (op d n m imm kind : Int) (w : World) (r : Bool) (hr : storeB op = r) :
    Calls Try.prog 31 #[instrV op d n m imm kind] w fun e w' => e = .returned (.bool r) ∧ Below w.heap.size w w' := by subst hr; exact rstore_any op d n m imm kind w
theorem sets13 (d : Int) (hd : d ≤ 31) : no31L [d, 32] = setsL 13 d := by
  have h1 : setsL 13 d = addL [] d ++ [32] := rfl
  rw [h1]
  show addL (addL [] d) 32 = _
  have h2 : ¬ ((32 : Int) = 31 ∨ (32 : Int) ∈ addL [] d) := by
    rintro (h | h)
    · omega
    · unfold addL at h
      split at h
      · simp at h
      · simp at h; omega
  rw [show addL (addL [] d) 32 = if (32 : Int) = 31 ∨ (32 : Int) ∈ addL [] d then addL [] d else addL [] d ++ [32] from rfl, if_neg h2]
/-- The instruction's cells behind a call. -/
theorem keepI {w1 w2 : World} {T : TypeId} {g : Nat} {op d n m imm kind : Int} (h : InstrAt w1 T g op d n m imm kind) (hb : Below w1.heap.size w1 w2) : InstrAt w2 T g op d n m imm kind := h.below hb

theorem readLit' (w : World) (T : TypeId) (z : Int) (g : Nat) (hg : g = w.heap.size) : readRow (w.alloc (.cells #[.int .i64 z] T)) (.slice (some ⟨g, 0, none⟩) 1 1) [z].length (intsZ [z]) := by
  subst hg; exact readLit w T z

set_option maxHeartbeats 800000 in
theorem raddress_1 (d n m imm kind : Int) (w : World) : Calls Try.prog 25 #[instrV 1 d n m imm kind] w (ListPost (addrL 1 n) w) := by
  have HP : Hid (∀ e w', (∃ v, e = .returned v ∧ readRow w' v (addrL 1 n).length (intsZ (addrL 1 n)) ∧ Below w.heap.size w w') → ListPost (addrL 1 n) w e w') := fun _ _ h => h
  have I0 := InstrAt.new w 42 1 d n m imm kind
  go_enter Try.func25, Try.ntmps25
  go_wp2_with fail
  refine (rload_lit _ _ _ _ _ _ _ false rfl).mono ?_
  rintro e w1 ⟨rfl, hb1⟩
  have I1 := I0.below hb1
  have hB1 := Lib.hid (below_trans (below_alloc (Below.refl _ _) _) hb1)
  have hs1 : w.heap.size < w1.heap.size := I1.lt
  clear hb1
  obtain ⟨c0, c1, c2, c3, c4, c5⟩ := I1.cells
  go_wp2_with fail
  refine (rstore_lit _ _ _ _ _ _ _ false rfl).mono ?_
  rintro e w2 ⟨rfl, hb2⟩
  have I2 := I1.below hb2
  have hB2 := Lib.hid (below_trans hB1.out hb2)
  have hs2 : w.heap.size < w2.heap.size := I2.lt
  clear hb2
  clear c0 c1 c2 c3 c4 c5
  obtain ⟨c0, c1, c2, c3, c4, c5⟩ := I2.cells
  go_wp2
  go_ret
  exact HP.out _ _ ⟨_, rfl, readNil _, by repeat (first | exact hB2.out | refine below_alloc ?_ _)⟩

set_option maxHeartbeats 800000 in
theorem raddress_2 (d n m imm kind : Int) (w : World) : Calls Try.prog 25 #[instrV 2 d n m imm kind] w (ListPost (addrL 2 n) w) := by
  have HP : Hid (∀ e w', (∃ v, e = .returned v ∧ readRow w' v (addrL 2 n).length (intsZ (addrL 2 n)) ∧ Below w.heap.size w w') → ListPost (addrL 2 n) w e w') := fun _ _ h => h
  have I0 := InstrAt.new w 42 2 d n m imm kind
  go_enter Try.func25, Try.ntmps25
  go_wp2_with fail
  refine (rload_lit _ _ _ _ _ _ _ true rfl).mono ?_
  rintro e w1 ⟨rfl, hb1⟩
  have I1 := I0.below hb1
  have hB1 := Lib.hid (below_trans (below_alloc (Below.refl _ _) _) hb1)
  have hs1 : w.heap.size < w1.heap.size := I1.lt
  clear hb1
  obtain ⟨c0, c1, c2, c3, c4, c5⟩ := I1.cells
  go_wp2_with fail
  refine (no31_1 n _ _ _ (by simp)).mono ?_
  rintro e w9 ⟨v, rfl, hown, hb9⟩
  have HO := Lib.hid hown
  clear hown
  go_wp2
  go_ret
  refine HP.out _ _ ⟨_, rfl, ?_, below_trans (by repeat (first | exact hB1.out | refine below_alloc ?_ _)) hb9⟩
  have := readRow_own HO.out
  rw [show no31L [n] = addrL 2 n from rfl] at this
  exact this

set_option maxHeartbeats 800000 in
theorem raddress_3 (d n m imm kind : Int) (w : World) : Calls Try.prog 25 #[instrV 3 d n m imm kind] w (ListPost (addrL 3 n) w) := by
  have HP : Hid (∀ e w', (∃ v, e = .returned v ∧ readRow w' v (addrL 3 n).length (intsZ (addrL 3 n)) ∧ Below w.heap.size w w') → ListPost (addrL 3 n) w e w') := fun _ _ h => h
  have I0 := InstrAt.new w 42 3 d n m imm kind
  go_enter Try.func25, Try.ntmps25
  go_wp2_with fail
  refine (rload_lit _ _ _ _ _ _ _ false rfl).mono ?_
  rintro e w1 ⟨rfl, hb1⟩
  have I1 := I0.below hb1
  have hB1 := Lib.hid (below_trans (below_alloc (Below.refl _ _) _) hb1)
  have hs1 : w.heap.size < w1.heap.size := I1.lt
  clear hb1
  obtain ⟨c0, c1, c2, c3, c4, c5⟩ := I1.cells
  go_wp2_with fail
  refine (rstore_lit _ _ _ _ _ _ _ true rfl).mono ?_
  rintro e w2 ⟨rfl, hb2⟩
  have I2 := I1.below hb2
  have hB2 := Lib.hid (below_trans hB1.out hb2)
  have hs2 : w.heap.size < w2.heap.size := I2.lt
  clear hb2
  clear c0 c1 c2 c3 c4 c5
  obtain ⟨c0, c1, c2, c3, c4, c5⟩ := I2.cells
  go_wp2_with fail
  refine (no31_1 n _ _ _ (by simp)).mono ?_
  rintro e w9 ⟨v, rfl, hown, hb9⟩
  have HO := Lib.hid hown
  clear hown
  go_wp2
  go_ret
  refine HP.out _ _ ⟨_, rfl, ?_, below_trans (by repeat (first | exact hB2.out | refine below_alloc ?_ _)) hb9⟩
  have := readRow_own HO.out
  rw [show no31L [n] = addrL 3 n from rfl] at this
  exact this

set_option maxHeartbeats 800000 in
theorem raddress_4 (d n m imm kind : Int) (w : World) : Calls Try.prog 25 #[instrV 4 d n m imm kind] w (ListPost (addrL 4 n) w) := by
  have HP : Hid (∀ e w', (∃ v, e = .returned v ∧ readRow w' v (addrL 4 n).length (intsZ (addrL 4 n)) ∧ Below w.heap.size w w') → ListPost (addrL 4 n) w e w') := fun _ _ h => h
  have I0 := InstrAt.new w 42 4 d n m imm kind
  go_enter Try.func25, Try.ntmps25
  go_wp2_with fail
  refine (rload_lit _ _ _ _ _ _ _ true rfl).mono ?_
  rintro e w1 ⟨rfl, hb1⟩
  have I1 := I0.below hb1
  have hB1 := Lib.hid (below_trans (below_alloc (Below.refl _ _) _) hb1)
  have hs1 : w.heap.size < w1.heap.size := I1.lt
  clear hb1
  obtain ⟨c0, c1, c2, c3, c4, c5⟩ := I1.cells
  go_wp2_with fail
  refine (no31_1 n _ _ _ (by simp)).mono ?_
  rintro e w9 ⟨v, rfl, hown, hb9⟩
  have HO := Lib.hid hown
  clear hown
  go_wp2
  go_ret
  refine HP.out _ _ ⟨_, rfl, ?_, below_trans (by repeat (first | exact hB1.out | refine below_alloc ?_ _)) hb9⟩
  have := readRow_own HO.out
  rw [show no31L [n] = addrL 4 n from rfl] at this
  exact this

set_option maxHeartbeats 800000 in
theorem raddress_5 (d n m imm kind : Int) (w : World) : Calls Try.prog 25 #[instrV 5 d n m imm kind] w (ListPost (addrL 5 n) w) := by
  have HP : Hid (∀ e w', (∃ v, e = .returned v ∧ readRow w' v (addrL 5 n).length (intsZ (addrL 5 n)) ∧ Below w.heap.size w w') → ListPost (addrL 5 n) w e w') := fun _ _ h => h
  have I0 := InstrAt.new w 42 5 d n m imm kind
  go_enter Try.func25, Try.ntmps25
  go_wp2_with fail
  refine (rload_lit _ _ _ _ _ _ _ false rfl).mono ?_
  rintro e w1 ⟨rfl, hb1⟩
  have I1 := I0.below hb1
  have hB1 := Lib.hid (below_trans (below_alloc (Below.refl _ _) _) hb1)
  have hs1 : w.heap.size < w1.heap.size := I1.lt
  clear hb1
  obtain ⟨c0, c1, c2, c3, c4, c5⟩ := I1.cells
  go_wp2_with fail
  refine (rstore_lit _ _ _ _ _ _ _ true rfl).mono ?_
  rintro e w2 ⟨rfl, hb2⟩
  have I2 := I1.below hb2
  have hB2 := Lib.hid (below_trans hB1.out hb2)
  have hs2 : w.heap.size < w2.heap.size := I2.lt
  clear hb2
  clear c0 c1 c2 c3 c4 c5
  obtain ⟨c0, c1, c2, c3, c4, c5⟩ := I2.cells
  go_wp2_with fail
  refine (no31_1 n _ _ _ (by simp)).mono ?_
  rintro e w9 ⟨v, rfl, hown, hb9⟩
  have HO := Lib.hid hown
  clear hown
  go_wp2
  go_ret
  refine HP.out _ _ ⟨_, rfl, ?_, below_trans (by repeat (first | exact hB2.out | refine below_alloc ?_ _)) hb9⟩
  have := readRow_own HO.out
  rw [show no31L [n] = addrL 5 n from rfl] at this
  exact this

set_option maxHeartbeats 800000 in
theorem raddress_6 (d n m imm kind : Int) (w : World) : Calls Try.prog 25 #[instrV 6 d n m imm kind] w (ListPost (addrL 6 n) w) := by
  have HP : Hid (∀ e w', (∃ v, e = .returned v ∧ readRow w' v (addrL 6 n).length (intsZ (addrL 6 n)) ∧ Below w.heap.size w w') → ListPost (addrL 6 n) w e w') := fun _ _ h => h
  have I0 := InstrAt.new w 42 6 d n m imm kind
  go_enter Try.func25, Try.ntmps25
  go_wp2_with fail
  refine (rload_lit _ _ _ _ _ _ _ false rfl).mono ?_
  rintro e w1 ⟨rfl, hb1⟩
  have I1 := I0.below hb1
  have hB1 := Lib.hid (below_trans (below_alloc (Below.refl _ _) _) hb1)
  have hs1 : w.heap.size < w1.heap.size := I1.lt
  clear hb1
  obtain ⟨c0, c1, c2, c3, c4, c5⟩ := I1.cells
  go_wp2_with fail
  refine (rstore_lit _ _ _ _ _ _ _ false rfl).mono ?_
  rintro e w2 ⟨rfl, hb2⟩
  have I2 := I1.below hb2
  have hB2 := Lib.hid (below_trans hB1.out hb2)
  have hs2 : w.heap.size < w2.heap.size := I2.lt
  clear hb2
  clear c0 c1 c2 c3 c4 c5
  obtain ⟨c0, c1, c2, c3, c4, c5⟩ := I2.cells
  go_wp2
  go_ret
  exact HP.out _ _ ⟨_, rfl, readNil _, by repeat (first | exact hB2.out | refine below_alloc ?_ _)⟩

set_option maxHeartbeats 800000 in
theorem raddress_7 (d n m imm kind : Int) (w : World) : Calls Try.prog 25 #[instrV 7 d n m imm kind] w (ListPost (addrL 7 n) w) := by
  have HP : Hid (∀ e w', (∃ v, e = .returned v ∧ readRow w' v (addrL 7 n).length (intsZ (addrL 7 n)) ∧ Below w.heap.size w w') → ListPost (addrL 7 n) w e w') := fun _ _ h => h
  have I0 := InstrAt.new w 42 7 d n m imm kind
  go_enter Try.func25, Try.ntmps25
  go_wp2_with fail
  refine (rload_lit _ _ _ _ _ _ _ false rfl).mono ?_
  rintro e w1 ⟨rfl, hb1⟩
  have I1 := I0.below hb1
  have hB1 := Lib.hid (below_trans (below_alloc (Below.refl _ _) _) hb1)
  have hs1 : w.heap.size < w1.heap.size := I1.lt
  clear hb1
  obtain ⟨c0, c1, c2, c3, c4, c5⟩ := I1.cells
  go_wp2_with fail
  refine (rstore_lit _ _ _ _ _ _ _ false rfl).mono ?_
  rintro e w2 ⟨rfl, hb2⟩
  have I2 := I1.below hb2
  have hB2 := Lib.hid (below_trans hB1.out hb2)
  have hs2 : w.heap.size < w2.heap.size := I2.lt
  clear hb2
  clear c0 c1 c2 c3 c4 c5
  obtain ⟨c0, c1, c2, c3, c4, c5⟩ := I2.cells
  go_wp2
  go_ret
  exact HP.out _ _ ⟨_, rfl, readNil _, by repeat (first | exact hB2.out | refine below_alloc ?_ _)⟩

set_option maxHeartbeats 800000 in
theorem raddress_8 (d n m imm kind : Int) (w : World) : Calls Try.prog 25 #[instrV 8 d n m imm kind] w (ListPost (addrL 8 n) w) := by
  have HP : Hid (∀ e w', (∃ v, e = .returned v ∧ readRow w' v (addrL 8 n).length (intsZ (addrL 8 n)) ∧ Below w.heap.size w w') → ListPost (addrL 8 n) w e w') := fun _ _ h => h
  have I0 := InstrAt.new w 42 8 d n m imm kind
  go_enter Try.func25, Try.ntmps25
  go_wp2_with fail
  refine (rload_lit _ _ _ _ _ _ _ false rfl).mono ?_
  rintro e w1 ⟨rfl, hb1⟩
  have I1 := I0.below hb1
  have hB1 := Lib.hid (below_trans (below_alloc (Below.refl _ _) _) hb1)
  have hs1 : w.heap.size < w1.heap.size := I1.lt
  clear hb1
  obtain ⟨c0, c1, c2, c3, c4, c5⟩ := I1.cells
  go_wp2_with fail
  refine (rstore_lit _ _ _ _ _ _ _ false rfl).mono ?_
  rintro e w2 ⟨rfl, hb2⟩
  have I2 := I1.below hb2
  have hB2 := Lib.hid (below_trans hB1.out hb2)
  have hs2 : w.heap.size < w2.heap.size := I2.lt
  clear hb2
  clear c0 c1 c2 c3 c4 c5
  obtain ⟨c0, c1, c2, c3, c4, c5⟩ := I2.cells
  go_wp2
  go_ret
  exact HP.out _ _ ⟨_, rfl, readNil _, by repeat (first | exact hB2.out | refine below_alloc ?_ _)⟩

set_option maxHeartbeats 800000 in
theorem raddress_9 (d n m imm kind : Int) (w : World) : Calls Try.prog 25 #[instrV 9 d n m imm kind] w (ListPost (addrL 9 n) w) := by
  have HP : Hid (∀ e w', (∃ v, e = .returned v ∧ readRow w' v (addrL 9 n).length (intsZ (addrL 9 n)) ∧ Below w.heap.size w w') → ListPost (addrL 9 n) w e w') := fun _ _ h => h
  have I0 := InstrAt.new w 42 9 d n m imm kind
  go_enter Try.func25, Try.ntmps25
  go_wp2_with fail
  refine (rload_lit _ _ _ _ _ _ _ false rfl).mono ?_
  rintro e w1 ⟨rfl, hb1⟩
  have I1 := I0.below hb1
  have hB1 := Lib.hid (below_trans (below_alloc (Below.refl _ _) _) hb1)
  have hs1 : w.heap.size < w1.heap.size := I1.lt
  clear hb1
  obtain ⟨c0, c1, c2, c3, c4, c5⟩ := I1.cells
  go_wp2_with fail
  refine (rstore_lit _ _ _ _ _ _ _ false rfl).mono ?_
  rintro e w2 ⟨rfl, hb2⟩
  have I2 := I1.below hb2
  have hB2 := Lib.hid (below_trans hB1.out hb2)
  have hs2 : w.heap.size < w2.heap.size := I2.lt
  clear hb2
  clear c0 c1 c2 c3 c4 c5
  obtain ⟨c0, c1, c2, c3, c4, c5⟩ := I2.cells
  go_wp2
  go_ret
  exact HP.out _ _ ⟨_, rfl, readNil _, by repeat (first | exact hB2.out | refine below_alloc ?_ _)⟩

set_option maxHeartbeats 800000 in
theorem raddress_10 (d n m imm kind : Int) (w : World) : Calls Try.prog 25 #[instrV 10 d n m imm kind] w (ListPost (addrL 10 n) w) := by
  have HP : Hid (∀ e w', (∃ v, e = .returned v ∧ readRow w' v (addrL 10 n).length (intsZ (addrL 10 n)) ∧ Below w.heap.size w w') → ListPost (addrL 10 n) w e w') := fun _ _ h => h
  have I0 := InstrAt.new w 42 10 d n m imm kind
  go_enter Try.func25, Try.ntmps25
  go_wp2_with fail
  refine (rload_lit _ _ _ _ _ _ _ false rfl).mono ?_
  rintro e w1 ⟨rfl, hb1⟩
  have I1 := I0.below hb1
  have hB1 := Lib.hid (below_trans (below_alloc (Below.refl _ _) _) hb1)
  have hs1 : w.heap.size < w1.heap.size := I1.lt
  clear hb1
  obtain ⟨c0, c1, c2, c3, c4, c5⟩ := I1.cells
  go_wp2_with fail
  refine (rstore_lit _ _ _ _ _ _ _ false rfl).mono ?_
  rintro e w2 ⟨rfl, hb2⟩
  have I2 := I1.below hb2
  have hB2 := Lib.hid (below_trans hB1.out hb2)
  have hs2 : w.heap.size < w2.heap.size := I2.lt
  clear hb2
  clear c0 c1 c2 c3 c4 c5
  obtain ⟨c0, c1, c2, c3, c4, c5⟩ := I2.cells
  go_wp2
  go_ret
  exact HP.out _ _ ⟨_, rfl, readNil _, by repeat (first | exact hB2.out | refine below_alloc ?_ _)⟩

set_option maxHeartbeats 800000 in
theorem raddress_11 (d n m imm kind : Int) (w : World) : Calls Try.prog 25 #[instrV 11 d n m imm kind] w (ListPost (addrL 11 n) w) := by
  have HP : Hid (∀ e w', (∃ v, e = .returned v ∧ readRow w' v (addrL 11 n).length (intsZ (addrL 11 n)) ∧ Below w.heap.size w w') → ListPost (addrL 11 n) w e w') := fun _ _ h => h
  have I0 := InstrAt.new w 42 11 d n m imm kind
  go_enter Try.func25, Try.ntmps25
  go_wp2_with fail
  refine (rload_lit _ _ _ _ _ _ _ false rfl).mono ?_
  rintro e w1 ⟨rfl, hb1⟩
  have I1 := I0.below hb1
  have hB1 := Lib.hid (below_trans (below_alloc (Below.refl _ _) _) hb1)
  have hs1 : w.heap.size < w1.heap.size := I1.lt
  clear hb1
  obtain ⟨c0, c1, c2, c3, c4, c5⟩ := I1.cells
  go_wp2_with fail
  refine (rstore_lit _ _ _ _ _ _ _ false rfl).mono ?_
  rintro e w2 ⟨rfl, hb2⟩
  have I2 := I1.below hb2
  have hB2 := Lib.hid (below_trans hB1.out hb2)
  have hs2 : w.heap.size < w2.heap.size := I2.lt
  clear hb2
  clear c0 c1 c2 c3 c4 c5
  obtain ⟨c0, c1, c2, c3, c4, c5⟩ := I2.cells
  go_wp2
  go_ret
  exact HP.out _ _ ⟨_, rfl, readNil _, by repeat (first | exact hB2.out | refine below_alloc ?_ _)⟩

set_option maxHeartbeats 800000 in
theorem raddress_12 (d n m imm kind : Int) (w : World) : Calls Try.prog 25 #[instrV 12 d n m imm kind] w (ListPost (addrL 12 n) w) := by
  have HP : Hid (∀ e w', (∃ v, e = .returned v ∧ readRow w' v (addrL 12 n).length (intsZ (addrL 12 n)) ∧ Below w.heap.size w w') → ListPost (addrL 12 n) w e w') := fun _ _ h => h
  have I0 := InstrAt.new w 42 12 d n m imm kind
  go_enter Try.func25, Try.ntmps25
  go_wp2_with fail
  refine (rload_lit _ _ _ _ _ _ _ false rfl).mono ?_
  rintro e w1 ⟨rfl, hb1⟩
  have I1 := I0.below hb1
  have hB1 := Lib.hid (below_trans (below_alloc (Below.refl _ _) _) hb1)
  have hs1 : w.heap.size < w1.heap.size := I1.lt
  clear hb1
  obtain ⟨c0, c1, c2, c3, c4, c5⟩ := I1.cells
  go_wp2_with fail
  refine (rstore_lit _ _ _ _ _ _ _ false rfl).mono ?_
  rintro e w2 ⟨rfl, hb2⟩
  have I2 := I1.below hb2
  have hB2 := Lib.hid (below_trans hB1.out hb2)
  have hs2 : w.heap.size < w2.heap.size := I2.lt
  clear hb2
  clear c0 c1 c2 c3 c4 c5
  obtain ⟨c0, c1, c2, c3, c4, c5⟩ := I2.cells
  go_wp2
  go_ret
  exact HP.out _ _ ⟨_, rfl, readNil _, by repeat (first | exact hB2.out | refine below_alloc ?_ _)⟩

set_option maxHeartbeats 800000 in
theorem raddress_13 (d n m imm kind : Int) (w : World) : Calls Try.prog 25 #[instrV 13 d n m imm kind] w (ListPost (addrL 13 n) w) := by
  have HP : Hid (∀ e w', (∃ v, e = .returned v ∧ readRow w' v (addrL 13 n).length (intsZ (addrL 13 n)) ∧ Below w.heap.size w w') → ListPost (addrL 13 n) w e w') := fun _ _ h => h
  have I0 := InstrAt.new w 42 13 d n m imm kind
  go_enter Try.func25, Try.ntmps25
  go_wp2_with fail
  refine (rload_lit _ _ _ _ _ _ _ false rfl).mono ?_
  rintro e w1 ⟨rfl, hb1⟩
  have I1 := I0.below hb1
  have hB1 := Lib.hid (below_trans (below_alloc (Below.refl _ _) _) hb1)
  have hs1 : w.heap.size < w1.heap.size := I1.lt
  clear hb1
  obtain ⟨c0, c1, c2, c3, c4, c5⟩ := I1.cells
  go_wp2_with fail
  refine (rstore_lit _ _ _ _ _ _ _ false rfl).mono ?_
  rintro e w2 ⟨rfl, hb2⟩
  have I2 := I1.below hb2
  have hB2 := Lib.hid (below_trans hB1.out hb2)
  have hs2 : w.heap.size < w2.heap.size := I2.lt
  clear hb2
  clear c0 c1 c2 c3 c4 c5
  obtain ⟨c0, c1, c2, c3, c4, c5⟩ := I2.cells
  go_wp2
  go_ret
  exact HP.out _ _ ⟨_, rfl, readNil _, by repeat (first | exact hB2.out | refine below_alloc ?_ _)⟩

set_option maxHeartbeats 800000 in
theorem raddress_14 (d n m imm kind : Int) (w : World) : Calls Try.prog 25 #[instrV 14 d n m imm kind] w (ListPost (addrL 14 n) w) := by
  have HP : Hid (∀ e w', (∃ v, e = .returned v ∧ readRow w' v (addrL 14 n).length (intsZ (addrL 14 n)) ∧ Below w.heap.size w w') → ListPost (addrL 14 n) w e w') := fun _ _ h => h
  have I0 := InstrAt.new w 42 14 d n m imm kind
  go_enter Try.func25, Try.ntmps25
  go_wp2_with fail
  refine (rload_lit _ _ _ _ _ _ _ false rfl).mono ?_
  rintro e w1 ⟨rfl, hb1⟩
  have I1 := I0.below hb1
  have hB1 := Lib.hid (below_trans (below_alloc (Below.refl _ _) _) hb1)
  have hs1 : w.heap.size < w1.heap.size := I1.lt
  clear hb1
  obtain ⟨c0, c1, c2, c3, c4, c5⟩ := I1.cells
  go_wp2_with fail
  refine (rstore_lit _ _ _ _ _ _ _ false rfl).mono ?_
  rintro e w2 ⟨rfl, hb2⟩
  have I2 := I1.below hb2
  have hB2 := Lib.hid (below_trans hB1.out hb2)
  have hs2 : w.heap.size < w2.heap.size := I2.lt
  clear hb2
  clear c0 c1 c2 c3 c4 c5
  obtain ⟨c0, c1, c2, c3, c4, c5⟩ := I2.cells
  go_wp2
  go_ret
  exact HP.out _ _ ⟨_, rfl, readNil _, by repeat (first | exact hB2.out | refine below_alloc ?_ _)⟩

set_option maxHeartbeats 800000 in
theorem raddress_15 (d n m imm kind : Int) (w : World) : Calls Try.prog 25 #[instrV 15 d n m imm kind] w (ListPost (addrL 15 n) w) := by
  have HP : Hid (∀ e w', (∃ v, e = .returned v ∧ readRow w' v (addrL 15 n).length (intsZ (addrL 15 n)) ∧ Below w.heap.size w w') → ListPost (addrL 15 n) w e w') := fun _ _ h => h
  have I0 := InstrAt.new w 42 15 d n m imm kind
  go_enter Try.func25, Try.ntmps25
  go_wp2_with fail
  refine (rload_lit _ _ _ _ _ _ _ false rfl).mono ?_
  rintro e w1 ⟨rfl, hb1⟩
  have I1 := I0.below hb1
  have hB1 := Lib.hid (below_trans (below_alloc (Below.refl _ _) _) hb1)
  have hs1 : w.heap.size < w1.heap.size := I1.lt
  clear hb1
  obtain ⟨c0, c1, c2, c3, c4, c5⟩ := I1.cells
  go_wp2_with fail
  refine (rstore_lit _ _ _ _ _ _ _ false rfl).mono ?_
  rintro e w2 ⟨rfl, hb2⟩
  have I2 := I1.below hb2
  have hB2 := Lib.hid (below_trans hB1.out hb2)
  have hs2 : w.heap.size < w2.heap.size := I2.lt
  clear hb2
  clear c0 c1 c2 c3 c4 c5
  obtain ⟨c0, c1, c2, c3, c4, c5⟩ := I2.cells
  go_wp2
  go_ret
  exact HP.out _ _ ⟨_, rfl, readNil _, by repeat (first | exact hB2.out | refine below_alloc ?_ _)⟩

set_option maxHeartbeats 800000 in
theorem raddress_16 (d n m imm kind : Int) (w : World) : Calls Try.prog 25 #[instrV 16 d n m imm kind] w (ListPost (addrL 16 n) w) := by
  have HP : Hid (∀ e w', (∃ v, e = .returned v ∧ readRow w' v (addrL 16 n).length (intsZ (addrL 16 n)) ∧ Below w.heap.size w w') → ListPost (addrL 16 n) w e w') := fun _ _ h => h
  have I0 := InstrAt.new w 42 16 d n m imm kind
  go_enter Try.func25, Try.ntmps25
  go_wp2_with fail
  refine (rload_lit _ _ _ _ _ _ _ false rfl).mono ?_
  rintro e w1 ⟨rfl, hb1⟩
  have I1 := I0.below hb1
  have hB1 := Lib.hid (below_trans (below_alloc (Below.refl _ _) _) hb1)
  have hs1 : w.heap.size < w1.heap.size := I1.lt
  clear hb1
  obtain ⟨c0, c1, c2, c3, c4, c5⟩ := I1.cells
  go_wp2_with fail
  refine (rstore_lit _ _ _ _ _ _ _ false rfl).mono ?_
  rintro e w2 ⟨rfl, hb2⟩
  have I2 := I1.below hb2
  have hB2 := Lib.hid (below_trans hB1.out hb2)
  have hs2 : w.heap.size < w2.heap.size := I2.lt
  clear hb2
  clear c0 c1 c2 c3 c4 c5
  obtain ⟨c0, c1, c2, c3, c4, c5⟩ := I2.cells
  go_wp2
  go_ret
  exact HP.out _ _ ⟨_, rfl, readNil _, by repeat (first | exact hB2.out | refine below_alloc ?_ _)⟩

set_option maxHeartbeats 800000 in
theorem raddress_17 (d n m imm kind : Int) (w : World) : Calls Try.prog 25 #[instrV 17 d n m imm kind] w (ListPost (addrL 17 n) w) := by
  have HP : Hid (∀ e w', (∃ v, e = .returned v ∧ readRow w' v (addrL 17 n).length (intsZ (addrL 17 n)) ∧ Below w.heap.size w w') → ListPost (addrL 17 n) w e w') := fun _ _ h => h
  have I0 := InstrAt.new w 42 17 d n m imm kind
  go_enter Try.func25, Try.ntmps25
  go_wp2_with fail
  refine (rload_lit _ _ _ _ _ _ _ false rfl).mono ?_
  rintro e w1 ⟨rfl, hb1⟩
  have I1 := I0.below hb1
  have hB1 := Lib.hid (below_trans (below_alloc (Below.refl _ _) _) hb1)
  have hs1 : w.heap.size < w1.heap.size := I1.lt
  clear hb1
  obtain ⟨c0, c1, c2, c3, c4, c5⟩ := I1.cells
  go_wp2_with fail
  refine (rstore_lit _ _ _ _ _ _ _ false rfl).mono ?_
  rintro e w2 ⟨rfl, hb2⟩
  have I2 := I1.below hb2
  have hB2 := Lib.hid (below_trans hB1.out hb2)
  have hs2 : w.heap.size < w2.heap.size := I2.lt
  clear hb2
  clear c0 c1 c2 c3 c4 c5
  obtain ⟨c0, c1, c2, c3, c4, c5⟩ := I2.cells
  go_wp2
  go_ret
  exact HP.out _ _ ⟨_, rfl, readNil _, by repeat (first | exact hB2.out | refine below_alloc ?_ _)⟩

set_option maxHeartbeats 800000 in
theorem raddress_18 (d n m imm kind : Int) (w : World) : Calls Try.prog 25 #[instrV 18 d n m imm kind] w (ListPost (addrL 18 n) w) := by
  have HP : Hid (∀ e w', (∃ v, e = .returned v ∧ readRow w' v (addrL 18 n).length (intsZ (addrL 18 n)) ∧ Below w.heap.size w w') → ListPost (addrL 18 n) w e w') := fun _ _ h => h
  have I0 := InstrAt.new w 42 18 d n m imm kind
  go_enter Try.func25, Try.ntmps25
  go_wp2_with fail
  refine (rload_lit _ _ _ _ _ _ _ false rfl).mono ?_
  rintro e w1 ⟨rfl, hb1⟩
  have I1 := I0.below hb1
  have hB1 := Lib.hid (below_trans (below_alloc (Below.refl _ _) _) hb1)
  have hs1 : w.heap.size < w1.heap.size := I1.lt
  clear hb1
  obtain ⟨c0, c1, c2, c3, c4, c5⟩ := I1.cells
  go_wp2_with fail
  refine (rstore_lit _ _ _ _ _ _ _ false rfl).mono ?_
  rintro e w2 ⟨rfl, hb2⟩
  have I2 := I1.below hb2
  have hB2 := Lib.hid (below_trans hB1.out hb2)
  have hs2 : w.heap.size < w2.heap.size := I2.lt
  clear hb2
  clear c0 c1 c2 c3 c4 c5
  obtain ⟨c0, c1, c2, c3, c4, c5⟩ := I2.cells
  go_wp2
  go_ret
  exact HP.out _ _ ⟨_, rfl, readNil _, by repeat (first | exact hB2.out | refine below_alloc ?_ _)⟩

set_option maxHeartbeats 800000 in
theorem raddress_19 (d n m imm kind : Int) (w : World) : Calls Try.prog 25 #[instrV 19 d n m imm kind] w (ListPost (addrL 19 n) w) := by
  have HP : Hid (∀ e w', (∃ v, e = .returned v ∧ readRow w' v (addrL 19 n).length (intsZ (addrL 19 n)) ∧ Below w.heap.size w w') → ListPost (addrL 19 n) w e w') := fun _ _ h => h
  have I0 := InstrAt.new w 42 19 d n m imm kind
  go_enter Try.func25, Try.ntmps25
  go_wp2_with fail
  refine (rload_lit _ _ _ _ _ _ _ false rfl).mono ?_
  rintro e w1 ⟨rfl, hb1⟩
  have I1 := I0.below hb1
  have hB1 := Lib.hid (below_trans (below_alloc (Below.refl _ _) _) hb1)
  have hs1 : w.heap.size < w1.heap.size := I1.lt
  clear hb1
  obtain ⟨c0, c1, c2, c3, c4, c5⟩ := I1.cells
  go_wp2_with fail
  refine (rstore_lit _ _ _ _ _ _ _ false rfl).mono ?_
  rintro e w2 ⟨rfl, hb2⟩
  have I2 := I1.below hb2
  have hB2 := Lib.hid (below_trans hB1.out hb2)
  have hs2 : w.heap.size < w2.heap.size := I2.lt
  clear hb2
  clear c0 c1 c2 c3 c4 c5
  obtain ⟨c0, c1, c2, c3, c4, c5⟩ := I2.cells
  go_wp2
  go_ret
  exact HP.out _ _ ⟨_, rfl, readNil _, by repeat (first | exact hB2.out | refine below_alloc ?_ _)⟩

set_option maxHeartbeats 800000 in
theorem raddress_20 (d n m imm kind : Int) (w : World) : Calls Try.prog 25 #[instrV 20 d n m imm kind] w (ListPost (addrL 20 n) w) := by
  have HP : Hid (∀ e w', (∃ v, e = .returned v ∧ readRow w' v (addrL 20 n).length (intsZ (addrL 20 n)) ∧ Below w.heap.size w w') → ListPost (addrL 20 n) w e w') := fun _ _ h => h
  have I0 := InstrAt.new w 42 20 d n m imm kind
  go_enter Try.func25, Try.ntmps25
  go_wp2_with fail
  refine (rload_lit _ _ _ _ _ _ _ false rfl).mono ?_
  rintro e w1 ⟨rfl, hb1⟩
  have I1 := I0.below hb1
  have hB1 := Lib.hid (below_trans (below_alloc (Below.refl _ _) _) hb1)
  have hs1 : w.heap.size < w1.heap.size := I1.lt
  clear hb1
  obtain ⟨c0, c1, c2, c3, c4, c5⟩ := I1.cells
  go_wp2_with fail
  refine (rstore_lit _ _ _ _ _ _ _ false rfl).mono ?_
  rintro e w2 ⟨rfl, hb2⟩
  have I2 := I1.below hb2
  have hB2 := Lib.hid (below_trans hB1.out hb2)
  have hs2 : w.heap.size < w2.heap.size := I2.lt
  clear hb2
  clear c0 c1 c2 c3 c4 c5
  obtain ⟨c0, c1, c2, c3, c4, c5⟩ := I2.cells
  go_wp2
  go_ret
  exact HP.out _ _ ⟨_, rfl, readNil _, by repeat (first | exact hB2.out | refine below_alloc ?_ _)⟩

set_option maxHeartbeats 800000 in
theorem raddress_21 (d n m imm kind : Int) (w : World) : Calls Try.prog 25 #[instrV 21 d n m imm kind] w (ListPost (addrL 21 n) w) := by
  have HP : Hid (∀ e w', (∃ v, e = .returned v ∧ readRow w' v (addrL 21 n).length (intsZ (addrL 21 n)) ∧ Below w.heap.size w w') → ListPost (addrL 21 n) w e w') := fun _ _ h => h
  have I0 := InstrAt.new w 42 21 d n m imm kind
  go_enter Try.func25, Try.ntmps25
  go_wp2_with fail
  refine (rload_lit _ _ _ _ _ _ _ false rfl).mono ?_
  rintro e w1 ⟨rfl, hb1⟩
  have I1 := I0.below hb1
  have hB1 := Lib.hid (below_trans (below_alloc (Below.refl _ _) _) hb1)
  have hs1 : w.heap.size < w1.heap.size := I1.lt
  clear hb1
  obtain ⟨c0, c1, c2, c3, c4, c5⟩ := I1.cells
  go_wp2_with fail
  refine (rstore_lit _ _ _ _ _ _ _ false rfl).mono ?_
  rintro e w2 ⟨rfl, hb2⟩
  have I2 := I1.below hb2
  have hB2 := Lib.hid (below_trans hB1.out hb2)
  have hs2 : w.heap.size < w2.heap.size := I2.lt
  clear hb2
  clear c0 c1 c2 c3 c4 c5
  obtain ⟨c0, c1, c2, c3, c4, c5⟩ := I2.cells
  go_wp2
  go_ret
  exact HP.out _ _ ⟨_, rfl, readNil _, by repeat (first | exact hB2.out | refine below_alloc ?_ _)⟩

set_option maxHeartbeats 800000 in
theorem raddress_22 (d n m imm kind : Int) (w : World) : Calls Try.prog 25 #[instrV 22 d n m imm kind] w (ListPost (addrL 22 n) w) := by
  have HP : Hid (∀ e w', (∃ v, e = .returned v ∧ readRow w' v (addrL 22 n).length (intsZ (addrL 22 n)) ∧ Below w.heap.size w w') → ListPost (addrL 22 n) w e w') := fun _ _ h => h
  have I0 := InstrAt.new w 42 22 d n m imm kind
  go_enter Try.func25, Try.ntmps25
  go_wp2_with fail
  refine (rload_lit _ _ _ _ _ _ _ false rfl).mono ?_
  rintro e w1 ⟨rfl, hb1⟩
  have I1 := I0.below hb1
  have hB1 := Lib.hid (below_trans (below_alloc (Below.refl _ _) _) hb1)
  have hs1 : w.heap.size < w1.heap.size := I1.lt
  clear hb1
  obtain ⟨c0, c1, c2, c3, c4, c5⟩ := I1.cells
  go_wp2_with fail
  refine (rstore_lit _ _ _ _ _ _ _ false rfl).mono ?_
  rintro e w2 ⟨rfl, hb2⟩
  have I2 := I1.below hb2
  have hB2 := Lib.hid (below_trans hB1.out hb2)
  have hs2 : w.heap.size < w2.heap.size := I2.lt
  clear hb2
  clear c0 c1 c2 c3 c4 c5
  obtain ⟨c0, c1, c2, c3, c4, c5⟩ := I2.cells
  go_wp2
  go_ret
  exact HP.out _ _ ⟨_, rfl, readNil _, by repeat (first | exact hB2.out | refine below_alloc ?_ _)⟩

set_option maxHeartbeats 800000 in
theorem raddress_23 (d n m imm kind : Int) (w : World) : Calls Try.prog 25 #[instrV 23 d n m imm kind] w (ListPost (addrL 23 n) w) := by
  have HP : Hid (∀ e w', (∃ v, e = .returned v ∧ readRow w' v (addrL 23 n).length (intsZ (addrL 23 n)) ∧ Below w.heap.size w w') → ListPost (addrL 23 n) w e w') := fun _ _ h => h
  have I0 := InstrAt.new w 42 23 d n m imm kind
  go_enter Try.func25, Try.ntmps25
  go_wp2_with fail
  refine (rload_lit _ _ _ _ _ _ _ false rfl).mono ?_
  rintro e w1 ⟨rfl, hb1⟩
  have I1 := I0.below hb1
  have hB1 := Lib.hid (below_trans (below_alloc (Below.refl _ _) _) hb1)
  have hs1 : w.heap.size < w1.heap.size := I1.lt
  clear hb1
  obtain ⟨c0, c1, c2, c3, c4, c5⟩ := I1.cells
  go_wp2_with fail
  refine (rstore_lit _ _ _ _ _ _ _ false rfl).mono ?_
  rintro e w2 ⟨rfl, hb2⟩
  have I2 := I1.below hb2
  have hB2 := Lib.hid (below_trans hB1.out hb2)
  have hs2 : w.heap.size < w2.heap.size := I2.lt
  clear hb2
  clear c0 c1 c2 c3 c4 c5
  obtain ⟨c0, c1, c2, c3, c4, c5⟩ := I2.cells
  go_wp2
  go_ret
  exact HP.out _ _ ⟨_, rfl, readNil _, by repeat (first | exact hB2.out | refine below_alloc ?_ _)⟩

theorem raddress_any (op d n m imm kind : Int) (w : World) (h : opB op = true) : Calls Try.prog 25 #[instrV op d n m imm kind] w (ListPost (addrL op n) w) := by
  rcases opB_cases h with rfl | rfl | rfl | rfl | rfl | rfl | rfl | rfl | rfl | rfl | rfl | rfl | rfl | rfl | rfl | rfl | rfl | rfl | rfl | rfl | rfl | rfl | rfl
  · exact raddress_1 d n m imm kind w
  · exact raddress_2 d n m imm kind w
  · exact raddress_3 d n m imm kind w
  · exact raddress_4 d n m imm kind w
  · exact raddress_5 d n m imm kind w
  · exact raddress_6 d n m imm kind w
  · exact raddress_7 d n m imm kind w
  · exact raddress_8 d n m imm kind w
  · exact raddress_9 d n m imm kind w
  · exact raddress_10 d n m imm kind w
  · exact raddress_11 d n m imm kind w
  · exact raddress_12 d n m imm kind w
  · exact raddress_13 d n m imm kind w
  · exact raddress_14 d n m imm kind w
  · exact raddress_15 d n m imm kind w
  · exact raddress_16 d n m imm kind w
  · exact raddress_17 d n m imm kind w
  · exact raddress_18 d n m imm kind w
  · exact raddress_19 d n m imm kind w
  · exact raddress_20 d n m imm kind w
  · exact raddress_21 d n m imm kind w
  · exact raddress_22 d n m imm kind w
  · exact raddress_23 d n m imm kind w

set_option maxHeartbeats 800000 in
theorem rdata_1 (d n m imm kind : Int) (w : World) : Calls Try.prog 26 #[instrV 1 d n m imm kind] w (ListPost (dataL 1 d n m) w) := by
  have HP : Hid (∀ e w', (∃ v, e = .returned v ∧ readRow w' v (dataL 1 d n m).length (intsZ (dataL 1 d n m)) ∧ Below w.heap.size w w') → ListPost (dataL 1 d n m) w e w') := fun _ _ h => h
  have I0 := InstrAt.new w 42 1 d n m imm kind
  go_enter Try.func26, Try.ntmps26
  go_wp2_with fail
  refine (rstore_lit _ _ _ _ _ _ _ false rfl).mono ?_
  rintro e w1 ⟨rfl, hb1⟩
  have I1 := I0.below hb1
  have hB1 := Lib.hid (below_trans (below_alloc (Below.refl _ _) _) hb1)
  have hs1 : w.heap.size < w1.heap.size := I1.lt
  clear hb1
  obtain ⟨c0, c1, c2, c3, c4, c5⟩ := I1.cells
  go_wp2_with fail
  refine (is_lit _ [15, 16, 21] false rfl rfl (by decide) (lit_cells .i64 [15, 16, 21] _ _ _ (by simp))).mono ?_
  rintro e w' ⟨rfl, rfl⟩
  go_wp2_with fail
  refine (is_lit _ [8, 9, 10, 11, 12, 13] false rfl rfl (by decide) (lit_cells .i64 [8, 9, 10, 11, 12, 13] _ _ _ (by simp))).mono ?_
  rintro e w' ⟨rfl, rfl⟩
  go_wp2
  go_ret
  exact HP.out _ _ ⟨_, rfl, readNil _, by repeat (first | exact hB1.out | refine below_alloc ?_ _)⟩

set_option maxHeartbeats 800000 in
theorem rdata_2 (d n m imm kind : Int) (w : World) : Calls Try.prog 26 #[instrV 2 d n m imm kind] w (ListPost (dataL 2 d n m) w) := by
  have HP : Hid (∀ e w', (∃ v, e = .returned v ∧ readRow w' v (dataL 2 d n m).length (intsZ (dataL 2 d n m)) ∧ Below w.heap.size w w') → ListPost (dataL 2 d n m) w e w') := fun _ _ h => h
  have I0 := InstrAt.new w 42 2 d n m imm kind
  go_enter Try.func26, Try.ntmps26
  go_wp2_with fail
  refine (rstore_lit _ _ _ _ _ _ _ false rfl).mono ?_
  rintro e w1 ⟨rfl, hb1⟩
  have I1 := I0.below hb1
  have hB1 := Lib.hid (below_trans (below_alloc (Below.refl _ _) _) hb1)
  have hs1 : w.heap.size < w1.heap.size := I1.lt
  clear hb1
  obtain ⟨c0, c1, c2, c3, c4, c5⟩ := I1.cells
  go_wp2_with fail
  refine (is_lit _ [15, 16, 21] false rfl rfl (by decide) (lit_cells .i64 [15, 16, 21] _ _ _ (by simp))).mono ?_
  rintro e w' ⟨rfl, rfl⟩
  go_wp2_with fail
  refine (is_lit _ [8, 9, 10, 11, 12, 13] false rfl rfl (by decide) (lit_cells .i64 [8, 9, 10, 11, 12, 13] _ _ _ (by simp))).mono ?_
  rintro e w' ⟨rfl, rfl⟩
  go_wp2
  go_ret
  exact HP.out _ _ ⟨_, rfl, readNil _, by repeat (first | exact hB1.out | refine below_alloc ?_ _)⟩

set_option maxHeartbeats 800000 in
theorem rdata_3 (d n m imm kind : Int) (w : World) : Calls Try.prog 26 #[instrV 3 d n m imm kind] w (ListPost (dataL 3 d n m) w) := by
  have HP : Hid (∀ e w', (∃ v, e = .returned v ∧ readRow w' v (dataL 3 d n m).length (intsZ (dataL 3 d n m)) ∧ Below w.heap.size w w') → ListPost (dataL 3 d n m) w e w') := fun _ _ h => h
  have I0 := InstrAt.new w 42 3 d n m imm kind
  go_enter Try.func26, Try.ntmps26
  go_wp2_with fail
  refine (rstore_lit _ _ _ _ _ _ _ true rfl).mono ?_
  rintro e w1 ⟨rfl, hb1⟩
  have I1 := I0.below hb1
  have hB1 := Lib.hid (below_trans (below_alloc (Below.refl _ _) _) hb1)
  have hs1 : w.heap.size < w1.heap.size := I1.lt
  clear hb1
  obtain ⟨c0, c1, c2, c3, c4, c5⟩ := I1.cells
  go_wp2_with fail
  refine (no31_1 d _ _ _ (by simp)).mono ?_
  rintro e w9 ⟨v, rfl, hown, hb9⟩
  have HO := Lib.hid hown
  clear hown
  go_wp2
  go_ret
  refine HP.out _ _ ⟨_, rfl, ?_, below_trans (by repeat (first | exact hB1.out | refine below_alloc ?_ _)) hb9⟩
  have := readRow_own HO.out
  rw [show no31L [d] = dataL 3 d n m from rfl] at this
  exact this

set_option maxHeartbeats 800000 in
theorem rdata_4 (d n m imm kind : Int) (w : World) : Calls Try.prog 26 #[instrV 4 d n m imm kind] w (ListPost (dataL 4 d n m) w) := by
  have HP : Hid (∀ e w', (∃ v, e = .returned v ∧ readRow w' v (dataL 4 d n m).length (intsZ (dataL 4 d n m)) ∧ Below w.heap.size w w') → ListPost (dataL 4 d n m) w e w') := fun _ _ h => h
  have I0 := InstrAt.new w 42 4 d n m imm kind
  go_enter Try.func26, Try.ntmps26
  go_wp2_with fail
  refine (rstore_lit _ _ _ _ _ _ _ false rfl).mono ?_
  rintro e w1 ⟨rfl, hb1⟩
  have I1 := I0.below hb1
  have hB1 := Lib.hid (below_trans (below_alloc (Below.refl _ _) _) hb1)
  have hs1 : w.heap.size < w1.heap.size := I1.lt
  clear hb1
  obtain ⟨c0, c1, c2, c3, c4, c5⟩ := I1.cells
  go_wp2_with fail
  refine (is_lit _ [15, 16, 21] false rfl rfl (by decide) (lit_cells .i64 [15, 16, 21] _ _ _ (by simp))).mono ?_
  rintro e w' ⟨rfl, rfl⟩
  go_wp2_with fail
  refine (is_lit _ [8, 9, 10, 11, 12, 13] false rfl rfl (by decide) (lit_cells .i64 [8, 9, 10, 11, 12, 13] _ _ _ (by simp))).mono ?_
  rintro e w' ⟨rfl, rfl⟩
  go_wp2
  go_ret
  exact HP.out _ _ ⟨_, rfl, readNil _, by repeat (first | exact hB1.out | refine below_alloc ?_ _)⟩

set_option maxHeartbeats 800000 in
theorem rdata_5 (d n m imm kind : Int) (w : World) : Calls Try.prog 26 #[instrV 5 d n m imm kind] w (ListPost (dataL 5 d n m) w) := by
  have HP : Hid (∀ e w', (∃ v, e = .returned v ∧ readRow w' v (dataL 5 d n m).length (intsZ (dataL 5 d n m)) ∧ Below w.heap.size w w') → ListPost (dataL 5 d n m) w e w') := fun _ _ h => h
  have I0 := InstrAt.new w 42 5 d n m imm kind
  go_enter Try.func26, Try.ntmps26
  go_wp2_with fail
  refine (rstore_lit _ _ _ _ _ _ _ true rfl).mono ?_
  rintro e w1 ⟨rfl, hb1⟩
  have I1 := I0.below hb1
  have hB1 := Lib.hid (below_trans (below_alloc (Below.refl _ _) _) hb1)
  have hs1 : w.heap.size < w1.heap.size := I1.lt
  clear hb1
  obtain ⟨c0, c1, c2, c3, c4, c5⟩ := I1.cells
  go_wp2_with fail
  refine (no31_1 d _ _ _ (by simp)).mono ?_
  rintro e w9 ⟨v, rfl, hown, hb9⟩
  have HO := Lib.hid hown
  clear hown
  go_wp2
  go_ret
  refine HP.out _ _ ⟨_, rfl, ?_, below_trans (by repeat (first | exact hB1.out | refine below_alloc ?_ _)) hb9⟩
  have := readRow_own HO.out
  rw [show no31L [d] = dataL 5 d n m from rfl] at this
  exact this

set_option maxHeartbeats 800000 in
theorem rdata_6 (d n m imm kind : Int) (w : World) : Calls Try.prog 26 #[instrV 6 d n m imm kind] w (ListPost (dataL 6 d n m) w) := by
  have HP : Hid (∀ e w', (∃ v, e = .returned v ∧ readRow w' v (dataL 6 d n m).length (intsZ (dataL 6 d n m)) ∧ Below w.heap.size w w') → ListPost (dataL 6 d n m) w e w') := fun _ _ h => h
  have I0 := InstrAt.new w 42 6 d n m imm kind
  go_enter Try.func26, Try.ntmps26
  go_wp2_with fail
  refine (rstore_lit _ _ _ _ _ _ _ false rfl).mono ?_
  rintro e w1 ⟨rfl, hb1⟩
  have I1 := I0.below hb1
  have hB1 := Lib.hid (below_trans (below_alloc (Below.refl _ _) _) hb1)
  have hs1 : w.heap.size < w1.heap.size := I1.lt
  clear hb1
  obtain ⟨c0, c1, c2, c3, c4, c5⟩ := I1.cells
  go_wp2_with fail
  refine (is_lit _ [15, 16, 21] false rfl rfl (by decide) (lit_cells .i64 [15, 16, 21] _ _ _ (by simp))).mono ?_
  rintro e w' ⟨rfl, rfl⟩
  go_wp2_with fail
  refine (is_lit _ [8, 9, 10, 11, 12, 13] false rfl rfl (by decide) (lit_cells .i64 [8, 9, 10, 11, 12, 13] _ _ _ (by simp))).mono ?_
  rintro e w' ⟨rfl, rfl⟩
  go_wp2
  go_ret
  exact HP.out _ _ ⟨_, rfl, readNil _, by repeat (first | exact hB1.out | refine below_alloc ?_ _)⟩

set_option maxHeartbeats 800000 in
theorem rdata_7 (d n m imm kind : Int) (w : World) : Calls Try.prog 26 #[instrV 7 d n m imm kind] w (ListPost (dataL 7 d n m) w) := by
  have HP : Hid (∀ e w', (∃ v, e = .returned v ∧ readRow w' v (dataL 7 d n m).length (intsZ (dataL 7 d n m)) ∧ Below w.heap.size w w') → ListPost (dataL 7 d n m) w e w') := fun _ _ h => h
  have I0 := InstrAt.new w 42 7 d n m imm kind
  go_enter Try.func26, Try.ntmps26
  go_wp2_with fail
  refine (rstore_lit _ _ _ _ _ _ _ false rfl).mono ?_
  rintro e w1 ⟨rfl, hb1⟩
  have I1 := I0.below hb1
  have hB1 := Lib.hid (below_trans (below_alloc (Below.refl _ _) _) hb1)
  have hs1 : w.heap.size < w1.heap.size := I1.lt
  clear hb1
  obtain ⟨c0, c1, c2, c3, c4, c5⟩ := I1.cells
  go_wp2_with fail
  refine (is_lit _ [15, 16, 21] false rfl rfl (by decide) (lit_cells .i64 [15, 16, 21] _ _ _ (by simp))).mono ?_
  rintro e w' ⟨rfl, rfl⟩
  go_wp2_with fail
  refine (no31_1 n _ _ _ (by simp)).mono ?_
  rintro e w9 ⟨v, rfl, hown, hb9⟩
  have HO := Lib.hid hown
  clear hown
  go_wp2
  go_ret
  refine HP.out _ _ ⟨_, rfl, ?_, below_trans (by repeat (first | exact hB1.out | refine below_alloc ?_ _)) hb9⟩
  have := readRow_own HO.out
  rw [show no31L [n] = dataL 7 d n m from rfl] at this
  exact this

set_option maxHeartbeats 800000 in
theorem rdata_8 (d n m imm kind : Int) (w : World) : Calls Try.prog 26 #[instrV 8 d n m imm kind] w (ListPost (dataL 8 d n m) w) := by
  have HP : Hid (∀ e w', (∃ v, e = .returned v ∧ readRow w' v (dataL 8 d n m).length (intsZ (dataL 8 d n m)) ∧ Below w.heap.size w w') → ListPost (dataL 8 d n m) w e w') := fun _ _ h => h
  have I0 := InstrAt.new w 42 8 d n m imm kind
  go_enter Try.func26, Try.ntmps26
  go_wp2_with fail
  refine (rstore_lit _ _ _ _ _ _ _ false rfl).mono ?_
  rintro e w1 ⟨rfl, hb1⟩
  have I1 := I0.below hb1
  have hB1 := Lib.hid (below_trans (below_alloc (Below.refl _ _) _) hb1)
  have hs1 : w.heap.size < w1.heap.size := I1.lt
  clear hb1
  obtain ⟨c0, c1, c2, c3, c4, c5⟩ := I1.cells
  go_wp2_with fail
  refine (is_lit _ [15, 16, 21] false rfl rfl (by decide) (lit_cells .i64 [15, 16, 21] _ _ _ (by simp))).mono ?_
  rintro e w' ⟨rfl, rfl⟩
  go_wp2_with fail
  refine (is_lit _ [8, 9, 10, 11, 12, 13] true rfl rfl (by decide) (lit_cells .i64 [8, 9, 10, 11, 12, 13] _ _ _ (by simp))).mono ?_
  rintro e w' ⟨rfl, rfl⟩
  go_wp2_with fail
  refine (no31_2 n m _ _ _ (by simp)).mono ?_
  rintro e w9 ⟨v, rfl, hown, hb9⟩
  have HO := Lib.hid hown
  clear hown
  go_wp2
  go_ret
  refine HP.out _ _ ⟨_, rfl, ?_, below_trans (by repeat (first | exact hB1.out | refine below_alloc ?_ _)) hb9⟩
  have := readRow_own HO.out
  rw [show no31L [n, m] = dataL 8 d n m from rfl] at this
  exact this

set_option maxHeartbeats 800000 in
theorem rdata_9 (d n m imm kind : Int) (w : World) : Calls Try.prog 26 #[instrV 9 d n m imm kind] w (ListPost (dataL 9 d n m) w) := by
  have HP : Hid (∀ e w', (∃ v, e = .returned v ∧ readRow w' v (dataL 9 d n m).length (intsZ (dataL 9 d n m)) ∧ Below w.heap.size w w') → ListPost (dataL 9 d n m) w e w') := fun _ _ h => h
  have I0 := InstrAt.new w 42 9 d n m imm kind
  go_enter Try.func26, Try.ntmps26
  go_wp2_with fail
  refine (rstore_lit _ _ _ _ _ _ _ false rfl).mono ?_
  rintro e w1 ⟨rfl, hb1⟩
  have I1 := I0.below hb1
  have hB1 := Lib.hid (below_trans (below_alloc (Below.refl _ _) _) hb1)
  have hs1 : w.heap.size < w1.heap.size := I1.lt
  clear hb1
  obtain ⟨c0, c1, c2, c3, c4, c5⟩ := I1.cells
  go_wp2_with fail
  refine (is_lit _ [15, 16, 21] false rfl rfl (by decide) (lit_cells .i64 [15, 16, 21] _ _ _ (by simp))).mono ?_
  rintro e w' ⟨rfl, rfl⟩
  go_wp2_with fail
  refine (is_lit _ [8, 9, 10, 11, 12, 13] true rfl rfl (by decide) (lit_cells .i64 [8, 9, 10, 11, 12, 13] _ _ _ (by simp))).mono ?_
  rintro e w' ⟨rfl, rfl⟩
  go_wp2_with fail
  refine (no31_2 n m _ _ _ (by simp)).mono ?_
  rintro e w9 ⟨v, rfl, hown, hb9⟩
  have HO := Lib.hid hown
  clear hown
  go_wp2
  go_ret
  refine HP.out _ _ ⟨_, rfl, ?_, below_trans (by repeat (first | exact hB1.out | refine below_alloc ?_ _)) hb9⟩
  have := readRow_own HO.out
  rw [show no31L [n, m] = dataL 9 d n m from rfl] at this
  exact this

set_option maxHeartbeats 800000 in
theorem rdata_10 (d n m imm kind : Int) (w : World) : Calls Try.prog 26 #[instrV 10 d n m imm kind] w (ListPost (dataL 10 d n m) w) := by
  have HP : Hid (∀ e w', (∃ v, e = .returned v ∧ readRow w' v (dataL 10 d n m).length (intsZ (dataL 10 d n m)) ∧ Below w.heap.size w w') → ListPost (dataL 10 d n m) w e w') := fun _ _ h => h
  have I0 := InstrAt.new w 42 10 d n m imm kind
  go_enter Try.func26, Try.ntmps26
  go_wp2_with fail
  refine (rstore_lit _ _ _ _ _ _ _ false rfl).mono ?_
  rintro e w1 ⟨rfl, hb1⟩
  have I1 := I0.below hb1
  have hB1 := Lib.hid (below_trans (below_alloc (Below.refl _ _) _) hb1)
  have hs1 : w.heap.size < w1.heap.size := I1.lt
  clear hb1
  obtain ⟨c0, c1, c2, c3, c4, c5⟩ := I1.cells
  go_wp2_with fail
  refine (is_lit _ [15, 16, 21] false rfl rfl (by decide) (lit_cells .i64 [15, 16, 21] _ _ _ (by simp))).mono ?_
  rintro e w' ⟨rfl, rfl⟩
  go_wp2_with fail
  refine (is_lit _ [8, 9, 10, 11, 12, 13] true rfl rfl (by decide) (lit_cells .i64 [8, 9, 10, 11, 12, 13] _ _ _ (by simp))).mono ?_
  rintro e w' ⟨rfl, rfl⟩
  go_wp2_with fail
  refine (no31_2 n m _ _ _ (by simp)).mono ?_
  rintro e w9 ⟨v, rfl, hown, hb9⟩
  have HO := Lib.hid hown
  clear hown
  go_wp2
  go_ret
  refine HP.out _ _ ⟨_, rfl, ?_, below_trans (by repeat (first | exact hB1.out | refine below_alloc ?_ _)) hb9⟩
  have := readRow_own HO.out
  rw [show no31L [n, m] = dataL 10 d n m from rfl] at this
  exact this

set_option maxHeartbeats 800000 in
theorem rdata_11 (d n m imm kind : Int) (w : World) : Calls Try.prog 26 #[instrV 11 d n m imm kind] w (ListPost (dataL 11 d n m) w) := by
  have HP : Hid (∀ e w', (∃ v, e = .returned v ∧ readRow w' v (dataL 11 d n m).length (intsZ (dataL 11 d n m)) ∧ Below w.heap.size w w') → ListPost (dataL 11 d n m) w e w') := fun _ _ h => h
  have I0 := InstrAt.new w 42 11 d n m imm kind
  go_enter Try.func26, Try.ntmps26
  go_wp2_with fail
  refine (rstore_lit _ _ _ _ _ _ _ false rfl).mono ?_
  rintro e w1 ⟨rfl, hb1⟩
  have I1 := I0.below hb1
  have hB1 := Lib.hid (below_trans (below_alloc (Below.refl _ _) _) hb1)
  have hs1 : w.heap.size < w1.heap.size := I1.lt
  clear hb1
  obtain ⟨c0, c1, c2, c3, c4, c5⟩ := I1.cells
  go_wp2_with fail
  refine (is_lit _ [15, 16, 21] false rfl rfl (by decide) (lit_cells .i64 [15, 16, 21] _ _ _ (by simp))).mono ?_
  rintro e w' ⟨rfl, rfl⟩
  go_wp2_with fail
  refine (is_lit _ [8, 9, 10, 11, 12, 13] true rfl rfl (by decide) (lit_cells .i64 [8, 9, 10, 11, 12, 13] _ _ _ (by simp))).mono ?_
  rintro e w' ⟨rfl, rfl⟩
  go_wp2_with fail
  refine (no31_2 n m _ _ _ (by simp)).mono ?_
  rintro e w9 ⟨v, rfl, hown, hb9⟩
  have HO := Lib.hid hown
  clear hown
  go_wp2
  go_ret
  refine HP.out _ _ ⟨_, rfl, ?_, below_trans (by repeat (first | exact hB1.out | refine below_alloc ?_ _)) hb9⟩
  have := readRow_own HO.out
  rw [show no31L [n, m] = dataL 11 d n m from rfl] at this
  exact this

set_option maxHeartbeats 800000 in
theorem rdata_12 (d n m imm kind : Int) (w : World) : Calls Try.prog 26 #[instrV 12 d n m imm kind] w (ListPost (dataL 12 d n m) w) := by
  have HP : Hid (∀ e w', (∃ v, e = .returned v ∧ readRow w' v (dataL 12 d n m).length (intsZ (dataL 12 d n m)) ∧ Below w.heap.size w w') → ListPost (dataL 12 d n m) w e w') := fun _ _ h => h
  have I0 := InstrAt.new w 42 12 d n m imm kind
  go_enter Try.func26, Try.ntmps26
  go_wp2_with fail
  refine (rstore_lit _ _ _ _ _ _ _ false rfl).mono ?_
  rintro e w1 ⟨rfl, hb1⟩
  have I1 := I0.below hb1
  have hB1 := Lib.hid (below_trans (below_alloc (Below.refl _ _) _) hb1)
  have hs1 : w.heap.size < w1.heap.size := I1.lt
  clear hb1
  obtain ⟨c0, c1, c2, c3, c4, c5⟩ := I1.cells
  go_wp2_with fail
  refine (is_lit _ [15, 16, 21] false rfl rfl (by decide) (lit_cells .i64 [15, 16, 21] _ _ _ (by simp))).mono ?_
  rintro e w' ⟨rfl, rfl⟩
  go_wp2_with fail
  refine (is_lit _ [8, 9, 10, 11, 12, 13] true rfl rfl (by decide) (lit_cells .i64 [8, 9, 10, 11, 12, 13] _ _ _ (by simp))).mono ?_
  rintro e w' ⟨rfl, rfl⟩
  go_wp2_with fail
  refine (no31_2 n m _ _ _ (by simp)).mono ?_
  rintro e w9 ⟨v, rfl, hown, hb9⟩
  have HO := Lib.hid hown
  clear hown
  go_wp2
  go_ret
  refine HP.out _ _ ⟨_, rfl, ?_, below_trans (by repeat (first | exact hB1.out | refine below_alloc ?_ _)) hb9⟩
  have := readRow_own HO.out
  rw [show no31L [n, m] = dataL 12 d n m from rfl] at this
  exact this

set_option maxHeartbeats 800000 in
theorem rdata_13 (d n m imm kind : Int) (w : World) : Calls Try.prog 26 #[instrV 13 d n m imm kind] w (ListPost (dataL 13 d n m) w) := by
  have HP : Hid (∀ e w', (∃ v, e = .returned v ∧ readRow w' v (dataL 13 d n m).length (intsZ (dataL 13 d n m)) ∧ Below w.heap.size w w') → ListPost (dataL 13 d n m) w e w') := fun _ _ h => h
  have I0 := InstrAt.new w 42 13 d n m imm kind
  go_enter Try.func26, Try.ntmps26
  go_wp2_with fail
  refine (rstore_lit _ _ _ _ _ _ _ false rfl).mono ?_
  rintro e w1 ⟨rfl, hb1⟩
  have I1 := I0.below hb1
  have hB1 := Lib.hid (below_trans (below_alloc (Below.refl _ _) _) hb1)
  have hs1 : w.heap.size < w1.heap.size := I1.lt
  clear hb1
  obtain ⟨c0, c1, c2, c3, c4, c5⟩ := I1.cells
  go_wp2_with fail
  refine (is_lit _ [15, 16, 21] false rfl rfl (by decide) (lit_cells .i64 [15, 16, 21] _ _ _ (by simp))).mono ?_
  rintro e w' ⟨rfl, rfl⟩
  go_wp2_with fail
  refine (is_lit _ [8, 9, 10, 11, 12, 13] true rfl rfl (by decide) (lit_cells .i64 [8, 9, 10, 11, 12, 13] _ _ _ (by simp))).mono ?_
  rintro e w' ⟨rfl, rfl⟩
  go_wp2_with fail
  refine (no31_2 n m _ _ _ (by simp)).mono ?_
  rintro e w9 ⟨v, rfl, hown, hb9⟩
  have HO := Lib.hid hown
  clear hown
  go_wp2
  go_ret
  refine HP.out _ _ ⟨_, rfl, ?_, below_trans (by repeat (first | exact hB1.out | refine below_alloc ?_ _)) hb9⟩
  have := readRow_own HO.out
  rw [show no31L [n, m] = dataL 13 d n m from rfl] at this
  exact this

set_option maxHeartbeats 800000 in
theorem rdata_14 (d n m imm kind : Int) (w : World) : Calls Try.prog 26 #[instrV 14 d n m imm kind] w (ListPost (dataL 14 d n m) w) := by
  have HP : Hid (∀ e w', (∃ v, e = .returned v ∧ readRow w' v (dataL 14 d n m).length (intsZ (dataL 14 d n m)) ∧ Below w.heap.size w w') → ListPost (dataL 14 d n m) w e w') := fun _ _ h => h
  have I0 := InstrAt.new w 42 14 d n m imm kind
  go_enter Try.func26, Try.ntmps26
  go_wp2_with fail
  refine (rstore_lit _ _ _ _ _ _ _ false rfl).mono ?_
  rintro e w1 ⟨rfl, hb1⟩
  have I1 := I0.below hb1
  have hB1 := Lib.hid (below_trans (below_alloc (Below.refl _ _) _) hb1)
  have hs1 : w.heap.size < w1.heap.size := I1.lt
  clear hb1
  obtain ⟨c0, c1, c2, c3, c4, c5⟩ := I1.cells
  go_wp2_with fail
  refine (is_lit _ [15, 16, 21] false rfl rfl (by decide) (lit_cells .i64 [15, 16, 21] _ _ _ (by simp))).mono ?_
  rintro e w' ⟨rfl, rfl⟩
  go_wp2_with fail
  refine (is_lit _ [8, 9, 10, 11, 12, 13] false rfl rfl (by decide) (lit_cells .i64 [8, 9, 10, 11, 12, 13] _ _ _ (by simp))).mono ?_
  rintro e w' ⟨rfl, rfl⟩
  go_wp2
  go_ret
  exact HP.out _ _ ⟨_, rfl, readNil _, by repeat (first | exact hB1.out | refine below_alloc ?_ _)⟩

set_option maxHeartbeats 800000 in
theorem rdata_15 (d n m imm kind : Int) (w : World) : Calls Try.prog 26 #[instrV 15 d n m imm kind] w (ListPost (dataL 15 d n m) w) := by
  have HP : Hid (∀ e w', (∃ v, e = .returned v ∧ readRow w' v (dataL 15 d n m).length (intsZ (dataL 15 d n m)) ∧ Below w.heap.size w w') → ListPost (dataL 15 d n m) w e w') := fun _ _ h => h
  have I0 := InstrAt.new w 42 15 d n m imm kind
  go_enter Try.func26, Try.ntmps26
  go_wp2_with fail
  refine (rstore_lit _ _ _ _ _ _ _ false rfl).mono ?_
  rintro e w1 ⟨rfl, hb1⟩
  have I1 := I0.below hb1
  have hB1 := Lib.hid (below_trans (below_alloc (Below.refl _ _) _) hb1)
  have hs1 : w.heap.size < w1.heap.size := I1.lt
  clear hb1
  obtain ⟨c0, c1, c2, c3, c4, c5⟩ := I1.cells
  go_wp2_with fail
  refine (is_lit _ [15, 16, 21] true rfl rfl (by decide) (lit_cells .i64 [15, 16, 21] _ _ _ (by simp))).mono ?_
  rintro e w' ⟨rfl, rfl⟩
  go_wp2_with fail
  refine (no31_1 d _ _ _ (by simp)).mono ?_
  rintro e w9 ⟨v, rfl, hown, hb9⟩
  have HO := Lib.hid hown
  clear hown
  go_wp2
  go_ret
  refine HP.out _ _ ⟨_, rfl, ?_, below_trans (by repeat (first | exact hB1.out | refine below_alloc ?_ _)) hb9⟩
  have := readRow_own HO.out
  rw [show no31L [d] = dataL 15 d n m from rfl] at this
  exact this

set_option maxHeartbeats 800000 in
theorem rdata_16 (d n m imm kind : Int) (w : World) : Calls Try.prog 26 #[instrV 16 d n m imm kind] w (ListPost (dataL 16 d n m) w) := by
  have HP : Hid (∀ e w', (∃ v, e = .returned v ∧ readRow w' v (dataL 16 d n m).length (intsZ (dataL 16 d n m)) ∧ Below w.heap.size w w') → ListPost (dataL 16 d n m) w e w') := fun _ _ h => h
  have I0 := InstrAt.new w 42 16 d n m imm kind
  go_enter Try.func26, Try.ntmps26
  go_wp2_with fail
  refine (rstore_lit _ _ _ _ _ _ _ false rfl).mono ?_
  rintro e w1 ⟨rfl, hb1⟩
  have I1 := I0.below hb1
  have hB1 := Lib.hid (below_trans (below_alloc (Below.refl _ _) _) hb1)
  have hs1 : w.heap.size < w1.heap.size := I1.lt
  clear hb1
  obtain ⟨c0, c1, c2, c3, c4, c5⟩ := I1.cells
  go_wp2_with fail
  refine (is_lit _ [15, 16, 21] true rfl rfl (by decide) (lit_cells .i64 [15, 16, 21] _ _ _ (by simp))).mono ?_
  rintro e w' ⟨rfl, rfl⟩
  go_wp2_with fail
  refine (no31_1 d _ _ _ (by simp)).mono ?_
  rintro e w9 ⟨v, rfl, hown, hb9⟩
  have HO := Lib.hid hown
  clear hown
  go_wp2
  go_ret
  refine HP.out _ _ ⟨_, rfl, ?_, below_trans (by repeat (first | exact hB1.out | refine below_alloc ?_ _)) hb9⟩
  have := readRow_own HO.out
  rw [show no31L [d] = dataL 16 d n m from rfl] at this
  exact this

set_option maxHeartbeats 800000 in
theorem rdata_17 (d n m imm kind : Int) (w : World) : Calls Try.prog 26 #[instrV 17 d n m imm kind] w (ListPost (dataL 17 d n m) w) := by
  have HP : Hid (∀ e w', (∃ v, e = .returned v ∧ readRow w' v (dataL 17 d n m).length (intsZ (dataL 17 d n m)) ∧ Below w.heap.size w w') → ListPost (dataL 17 d n m) w e w') := fun _ _ h => h
  have I0 := InstrAt.new w 42 17 d n m imm kind
  go_enter Try.func26, Try.ntmps26
  go_wp2_with fail
  refine (rstore_lit _ _ _ _ _ _ _ false rfl).mono ?_
  rintro e w1 ⟨rfl, hb1⟩
  have I1 := I0.below hb1
  have hB1 := Lib.hid (below_trans (below_alloc (Below.refl _ _) _) hb1)
  have hs1 : w.heap.size < w1.heap.size := I1.lt
  clear hb1
  obtain ⟨c0, c1, c2, c3, c4, c5⟩ := I1.cells
  go_wp2_with fail
  refine (is_lit _ [15, 16, 21] false rfl rfl (by decide) (lit_cells .i64 [15, 16, 21] _ _ _ (by simp))).mono ?_
  rintro e w' ⟨rfl, rfl⟩
  go_wp2_with fail
  refine (is_lit _ [8, 9, 10, 11, 12, 13] false rfl rfl (by decide) (lit_cells .i64 [8, 9, 10, 11, 12, 13] _ _ _ (by simp))).mono ?_
  rintro e w' ⟨rfl, rfl⟩
  go_wp2
  go_ret
  refine HP.out _ _ ⟨_, rfl, ?_, by repeat (first | exact hB1.out | refine below_alloc ?_ _)⟩
  rw [show dataL 17 d n m = [32] from rfl]
  exact readLit' _ _ _ _ (by simp)

set_option maxHeartbeats 800000 in
theorem rdata_18 (d n m imm kind : Int) (w : World) : Calls Try.prog 26 #[instrV 18 d n m imm kind] w (ListPost (dataL 18 d n m) w) := by
  have HP : Hid (∀ e w', (∃ v, e = .returned v ∧ readRow w' v (dataL 18 d n m).length (intsZ (dataL 18 d n m)) ∧ Below w.heap.size w w') → ListPost (dataL 18 d n m) w e w') := fun _ _ h => h
  have I0 := InstrAt.new w 42 18 d n m imm kind
  go_enter Try.func26, Try.ntmps26
  go_wp2_with fail
  refine (rstore_lit _ _ _ _ _ _ _ false rfl).mono ?_
  rintro e w1 ⟨rfl, hb1⟩
  have I1 := I0.below hb1
  have hB1 := Lib.hid (below_trans (below_alloc (Below.refl _ _) _) hb1)
  have hs1 : w.heap.size < w1.heap.size := I1.lt
  clear hb1
  obtain ⟨c0, c1, c2, c3, c4, c5⟩ := I1.cells
  go_wp2_with fail
  refine (is_lit _ [15, 16, 21] false rfl rfl (by decide) (lit_cells .i64 [15, 16, 21] _ _ _ (by simp))).mono ?_
  rintro e w' ⟨rfl, rfl⟩
  go_wp2_with fail
  refine (is_lit _ [8, 9, 10, 11, 12, 13] false rfl rfl (by decide) (lit_cells .i64 [8, 9, 10, 11, 12, 13] _ _ _ (by simp))).mono ?_
  rintro e w' ⟨rfl, rfl⟩
  go_wp2
  go_ret
  exact HP.out _ _ ⟨_, rfl, readNil _, by repeat (first | exact hB1.out | refine below_alloc ?_ _)⟩

set_option maxHeartbeats 800000 in
theorem rdata_19 (d n m imm kind : Int) (w : World) : Calls Try.prog 26 #[instrV 19 d n m imm kind] w (ListPost (dataL 19 d n m) w) := by
  have HP : Hid (∀ e w', (∃ v, e = .returned v ∧ readRow w' v (dataL 19 d n m).length (intsZ (dataL 19 d n m)) ∧ Below w.heap.size w w') → ListPost (dataL 19 d n m) w e w') := fun _ _ h => h
  have I0 := InstrAt.new w 42 19 d n m imm kind
  go_enter Try.func26, Try.ntmps26
  go_wp2_with fail
  refine (rstore_lit _ _ _ _ _ _ _ false rfl).mono ?_
  rintro e w1 ⟨rfl, hb1⟩
  have I1 := I0.below hb1
  have hB1 := Lib.hid (below_trans (below_alloc (Below.refl _ _) _) hb1)
  have hs1 : w.heap.size < w1.heap.size := I1.lt
  clear hb1
  obtain ⟨c0, c1, c2, c3, c4, c5⟩ := I1.cells
  go_wp2_with fail
  refine (is_lit _ [15, 16, 21] false rfl rfl (by decide) (lit_cells .i64 [15, 16, 21] _ _ _ (by simp))).mono ?_
  rintro e w' ⟨rfl, rfl⟩
  go_wp2_with fail
  refine (is_lit _ [8, 9, 10, 11, 12, 13] false rfl rfl (by decide) (lit_cells .i64 [8, 9, 10, 11, 12, 13] _ _ _ (by simp))).mono ?_
  rintro e w' ⟨rfl, rfl⟩
  go_wp2
  go_ret
  exact HP.out _ _ ⟨_, rfl, readNil _, by repeat (first | exact hB1.out | refine below_alloc ?_ _)⟩

set_option maxHeartbeats 800000 in
theorem rdata_20 (d n m imm kind : Int) (w : World) : Calls Try.prog 26 #[instrV 20 d n m imm kind] w (ListPost (dataL 20 d n m) w) := by
  have HP : Hid (∀ e w', (∃ v, e = .returned v ∧ readRow w' v (dataL 20 d n m).length (intsZ (dataL 20 d n m)) ∧ Below w.heap.size w w') → ListPost (dataL 20 d n m) w e w') := fun _ _ h => h
  have I0 := InstrAt.new w 42 20 d n m imm kind
  go_enter Try.func26, Try.ntmps26
  go_wp2_with fail
  refine (rstore_lit _ _ _ _ _ _ _ false rfl).mono ?_
  rintro e w1 ⟨rfl, hb1⟩
  have I1 := I0.below hb1
  have hB1 := Lib.hid (below_trans (below_alloc (Below.refl _ _) _) hb1)
  have hs1 : w.heap.size < w1.heap.size := I1.lt
  clear hb1
  obtain ⟨c0, c1, c2, c3, c4, c5⟩ := I1.cells
  go_wp2_with fail
  refine (is_lit _ [15, 16, 21] false rfl rfl (by decide) (lit_cells .i64 [15, 16, 21] _ _ _ (by simp))).mono ?_
  rintro e w' ⟨rfl, rfl⟩
  go_wp2_with fail
  refine (is_lit _ [8, 9, 10, 11, 12, 13] false rfl rfl (by decide) (lit_cells .i64 [8, 9, 10, 11, 12, 13] _ _ _ (by simp))).mono ?_
  rintro e w' ⟨rfl, rfl⟩
  go_wp2
  go_ret
  exact HP.out _ _ ⟨_, rfl, readNil _, by repeat (first | exact hB1.out | refine below_alloc ?_ _)⟩

set_option maxHeartbeats 800000 in
theorem rdata_21 (d n m imm kind : Int) (w : World) : Calls Try.prog 26 #[instrV 21 d n m imm kind] w (ListPost (dataL 21 d n m) w) := by
  have HP : Hid (∀ e w', (∃ v, e = .returned v ∧ readRow w' v (dataL 21 d n m).length (intsZ (dataL 21 d n m)) ∧ Below w.heap.size w w') → ListPost (dataL 21 d n m) w e w') := fun _ _ h => h
  have I0 := InstrAt.new w 42 21 d n m imm kind
  go_enter Try.func26, Try.ntmps26
  go_wp2_with fail
  refine (rstore_lit _ _ _ _ _ _ _ false rfl).mono ?_
  rintro e w1 ⟨rfl, hb1⟩
  have I1 := I0.below hb1
  have hB1 := Lib.hid (below_trans (below_alloc (Below.refl _ _) _) hb1)
  have hs1 : w.heap.size < w1.heap.size := I1.lt
  clear hb1
  obtain ⟨c0, c1, c2, c3, c4, c5⟩ := I1.cells
  go_wp2_with fail
  refine (is_lit _ [15, 16, 21] true rfl rfl (by decide) (lit_cells .i64 [15, 16, 21] _ _ _ (by simp))).mono ?_
  rintro e w' ⟨rfl, rfl⟩
  go_wp2_with fail
  refine (no31_1 d _ _ _ (by simp)).mono ?_
  rintro e w9 ⟨v, rfl, hown, hb9⟩
  have HO := Lib.hid hown
  clear hown
  go_wp2
  go_ret
  refine HP.out _ _ ⟨_, rfl, ?_, below_trans (by repeat (first | exact hB1.out | refine below_alloc ?_ _)) hb9⟩
  have := readRow_own HO.out
  rw [show no31L [d] = dataL 21 d n m from rfl] at this
  exact this

set_option maxHeartbeats 800000 in
theorem rdata_22 (d n m imm kind : Int) (w : World) : Calls Try.prog 26 #[instrV 22 d n m imm kind] w (ListPost (dataL 22 d n m) w) := by
  have HP : Hid (∀ e w', (∃ v, e = .returned v ∧ readRow w' v (dataL 22 d n m).length (intsZ (dataL 22 d n m)) ∧ Below w.heap.size w w') → ListPost (dataL 22 d n m) w e w') := fun _ _ h => h
  have I0 := InstrAt.new w 42 22 d n m imm kind
  go_enter Try.func26, Try.ntmps26
  go_wp2_with fail
  refine (rstore_lit _ _ _ _ _ _ _ false rfl).mono ?_
  rintro e w1 ⟨rfl, hb1⟩
  have I1 := I0.below hb1
  have hB1 := Lib.hid (below_trans (below_alloc (Below.refl _ _) _) hb1)
  have hs1 : w.heap.size < w1.heap.size := I1.lt
  clear hb1
  obtain ⟨c0, c1, c2, c3, c4, c5⟩ := I1.cells
  go_wp2_with fail
  refine (is_lit _ [15, 16, 21] false rfl rfl (by decide) (lit_cells .i64 [15, 16, 21] _ _ _ (by simp))).mono ?_
  rintro e w' ⟨rfl, rfl⟩
  go_wp2_with fail
  refine (is_lit _ [8, 9, 10, 11, 12, 13] false rfl rfl (by decide) (lit_cells .i64 [8, 9, 10, 11, 12, 13] _ _ _ (by simp))).mono ?_
  rintro e w' ⟨rfl, rfl⟩
  go_wp2
  go_ret
  exact HP.out _ _ ⟨_, rfl, readNil _, by repeat (first | exact hB1.out | refine below_alloc ?_ _)⟩

set_option maxHeartbeats 800000 in
theorem rdata_23 (d n m imm kind : Int) (w : World) : Calls Try.prog 26 #[instrV 23 d n m imm kind] w (ListPost (dataL 23 d n m) w) := by
  have HP : Hid (∀ e w', (∃ v, e = .returned v ∧ readRow w' v (dataL 23 d n m).length (intsZ (dataL 23 d n m)) ∧ Below w.heap.size w w') → ListPost (dataL 23 d n m) w e w') := fun _ _ h => h
  have I0 := InstrAt.new w 42 23 d n m imm kind
  go_enter Try.func26, Try.ntmps26
  go_wp2_with fail
  refine (rstore_lit _ _ _ _ _ _ _ false rfl).mono ?_
  rintro e w1 ⟨rfl, hb1⟩
  have I1 := I0.below hb1
  have hB1 := Lib.hid (below_trans (below_alloc (Below.refl _ _) _) hb1)
  have hs1 : w.heap.size < w1.heap.size := I1.lt
  clear hb1
  obtain ⟨c0, c1, c2, c3, c4, c5⟩ := I1.cells
  go_wp2_with fail
  refine (is_lit _ [15, 16, 21] false rfl rfl (by decide) (lit_cells .i64 [15, 16, 21] _ _ _ (by simp))).mono ?_
  rintro e w' ⟨rfl, rfl⟩
  go_wp2_with fail
  refine (is_lit _ [8, 9, 10, 11, 12, 13] false rfl rfl (by decide) (lit_cells .i64 [8, 9, 10, 11, 12, 13] _ _ _ (by simp))).mono ?_
  rintro e w' ⟨rfl, rfl⟩
  go_wp2
  go_ret
  exact HP.out _ _ ⟨_, rfl, readNil _, by repeat (first | exact hB1.out | refine below_alloc ?_ _)⟩

theorem rdata_any (op d n m imm kind : Int) (w : World) (h : opB op = true) : Calls Try.prog 26 #[instrV op d n m imm kind] w (ListPost (dataL op d n m) w) := by
  rcases opB_cases h with rfl | rfl | rfl | rfl | rfl | rfl | rfl | rfl | rfl | rfl | rfl | rfl | rfl | rfl | rfl | rfl | rfl | rfl | rfl | rfl | rfl | rfl | rfl
  · exact rdata_1 d n m imm kind w
  · exact rdata_2 d n m imm kind w
  · exact rdata_3 d n m imm kind w
  · exact rdata_4 d n m imm kind w
  · exact rdata_5 d n m imm kind w
  · exact rdata_6 d n m imm kind w
  · exact rdata_7 d n m imm kind w
  · exact rdata_8 d n m imm kind w
  · exact rdata_9 d n m imm kind w
  · exact rdata_10 d n m imm kind w
  · exact rdata_11 d n m imm kind w
  · exact rdata_12 d n m imm kind w
  · exact rdata_13 d n m imm kind w
  · exact rdata_14 d n m imm kind w
  · exact rdata_15 d n m imm kind w
  · exact rdata_16 d n m imm kind w
  · exact rdata_17 d n m imm kind w
  · exact rdata_18 d n m imm kind w
  · exact rdata_19 d n m imm kind w
  · exact rdata_20 d n m imm kind w
  · exact rdata_21 d n m imm kind w
  · exact rdata_22 d n m imm kind w
  · exact rdata_23 d n m imm kind w

set_option maxHeartbeats 800000 in
theorem rsets_1 (d n m imm kind : Int) (w : World) : Calls Try.prog 27 #[instrV 1 d n m imm kind] w (ListPost (setsL 1 d) w) := by
  have HP : Hid (∀ e w', (∃ v, e = .returned v ∧ readRow w' v (setsL 1 d).length (intsZ (setsL 1 d)) ∧ Below w.heap.size w w') → ListPost (setsL 1 d) w e w') := fun _ _ h => h
  have I0 := InstrAt.new w 42 1 d n m imm kind
  go_enter Try.func27, Try.ntmps27
  go_wp2_with fail
  refine (rload_lit _ _ _ _ _ _ _ false rfl).mono ?_
  rintro e w1 ⟨rfl, hb1⟩
  have I1 := I0.below hb1
  have hB1 := Lib.hid (below_trans (below_alloc (Below.refl _ _) _) hb1)
  have hs1 : w.heap.size < w1.heap.size := I1.lt
  clear hb1
  obtain ⟨c0, c1, c2, c3, c4, c5⟩ := I1.cells
  go_wp2_with fail
  refine (is_lit _ [6, 7, 8, 9, 10, 11, 12, 23] false rfl rfl (by decide) (lit_cells .i64 [6, 7, 8, 9, 10, 11, 12, 23] _ _ _ (by simp))).mono ?_
  rintro e w' ⟨rfl, rfl⟩
  go_wp2
  go_ret
  exact HP.out _ _ ⟨_, rfl, readNil _, by repeat (first | exact hB1.out | refine below_alloc ?_ _)⟩

set_option maxHeartbeats 800000 in
theorem rsets_2 (d n m imm kind : Int) (w : World) : Calls Try.prog 27 #[instrV 2 d n m imm kind] w (ListPost (setsL 2 d) w) := by
  have HP : Hid (∀ e w', (∃ v, e = .returned v ∧ readRow w' v (setsL 2 d).length (intsZ (setsL 2 d)) ∧ Below w.heap.size w w') → ListPost (setsL 2 d) w e w') := fun _ _ h => h
  have I0 := InstrAt.new w 42 2 d n m imm kind
  go_enter Try.func27, Try.ntmps27
  go_wp2_with fail
  refine (rload_lit _ _ _ _ _ _ _ true rfl).mono ?_
  rintro e w1 ⟨rfl, hb1⟩
  have I1 := I0.below hb1
  have hB1 := Lib.hid (below_trans (below_alloc (Below.refl _ _) _) hb1)
  have hs1 : w.heap.size < w1.heap.size := I1.lt
  clear hb1
  obtain ⟨c0, c1, c2, c3, c4, c5⟩ := I1.cells
  go_wp2_with fail
  refine (no31_1 d _ _ _ (by simp)).mono ?_
  rintro e w9 ⟨v, rfl, hown, hb9⟩
  have HO := Lib.hid hown
  clear hown
  go_wp2
  go_ret
  refine HP.out _ _ ⟨_, rfl, ?_, below_trans (by repeat (first | exact hB1.out | refine below_alloc ?_ _)) hb9⟩
  have := readRow_own HO.out
  rw [show no31L [d] = setsL 2 d from rfl] at this
  exact this

set_option maxHeartbeats 800000 in
theorem rsets_3 (d n m imm kind : Int) (w : World) : Calls Try.prog 27 #[instrV 3 d n m imm kind] w (ListPost (setsL 3 d) w) := by
  have HP : Hid (∀ e w', (∃ v, e = .returned v ∧ readRow w' v (setsL 3 d).length (intsZ (setsL 3 d)) ∧ Below w.heap.size w w') → ListPost (setsL 3 d) w e w') := fun _ _ h => h
  have I0 := InstrAt.new w 42 3 d n m imm kind
  go_enter Try.func27, Try.ntmps27
  go_wp2_with fail
  refine (rload_lit _ _ _ _ _ _ _ false rfl).mono ?_
  rintro e w1 ⟨rfl, hb1⟩
  have I1 := I0.below hb1
  have hB1 := Lib.hid (below_trans (below_alloc (Below.refl _ _) _) hb1)
  have hs1 : w.heap.size < w1.heap.size := I1.lt
  clear hb1
  obtain ⟨c0, c1, c2, c3, c4, c5⟩ := I1.cells
  go_wp2_with fail
  refine (is_lit _ [6, 7, 8, 9, 10, 11, 12, 23] false rfl rfl (by decide) (lit_cells .i64 [6, 7, 8, 9, 10, 11, 12, 23] _ _ _ (by simp))).mono ?_
  rintro e w' ⟨rfl, rfl⟩
  go_wp2
  go_ret
  exact HP.out _ _ ⟨_, rfl, readNil _, by repeat (first | exact hB1.out | refine below_alloc ?_ _)⟩

set_option maxHeartbeats 800000 in
theorem rsets_4 (d n m imm kind : Int) (w : World) : Calls Try.prog 27 #[instrV 4 d n m imm kind] w (ListPost (setsL 4 d) w) := by
  have HP : Hid (∀ e w', (∃ v, e = .returned v ∧ readRow w' v (setsL 4 d).length (intsZ (setsL 4 d)) ∧ Below w.heap.size w w') → ListPost (setsL 4 d) w e w') := fun _ _ h => h
  have I0 := InstrAt.new w 42 4 d n m imm kind
  go_enter Try.func27, Try.ntmps27
  go_wp2_with fail
  refine (rload_lit _ _ _ _ _ _ _ true rfl).mono ?_
  rintro e w1 ⟨rfl, hb1⟩
  have I1 := I0.below hb1
  have hB1 := Lib.hid (below_trans (below_alloc (Below.refl _ _) _) hb1)
  have hs1 : w.heap.size < w1.heap.size := I1.lt
  clear hb1
  obtain ⟨c0, c1, c2, c3, c4, c5⟩ := I1.cells
  go_wp2_with fail
  refine (no31_1 d _ _ _ (by simp)).mono ?_
  rintro e w9 ⟨v, rfl, hown, hb9⟩
  have HO := Lib.hid hown
  clear hown
  go_wp2
  go_ret
  refine HP.out _ _ ⟨_, rfl, ?_, below_trans (by repeat (first | exact hB1.out | refine below_alloc ?_ _)) hb9⟩
  have := readRow_own HO.out
  rw [show no31L [d] = setsL 4 d from rfl] at this
  exact this

set_option maxHeartbeats 800000 in
theorem rsets_5 (d n m imm kind : Int) (w : World) : Calls Try.prog 27 #[instrV 5 d n m imm kind] w (ListPost (setsL 5 d) w) := by
  have HP : Hid (∀ e w', (∃ v, e = .returned v ∧ readRow w' v (setsL 5 d).length (intsZ (setsL 5 d)) ∧ Below w.heap.size w w') → ListPost (setsL 5 d) w e w') := fun _ _ h => h
  have I0 := InstrAt.new w 42 5 d n m imm kind
  go_enter Try.func27, Try.ntmps27
  go_wp2_with fail
  refine (rload_lit _ _ _ _ _ _ _ false rfl).mono ?_
  rintro e w1 ⟨rfl, hb1⟩
  have I1 := I0.below hb1
  have hB1 := Lib.hid (below_trans (below_alloc (Below.refl _ _) _) hb1)
  have hs1 : w.heap.size < w1.heap.size := I1.lt
  clear hb1
  obtain ⟨c0, c1, c2, c3, c4, c5⟩ := I1.cells
  go_wp2_with fail
  refine (is_lit _ [6, 7, 8, 9, 10, 11, 12, 23] false rfl rfl (by decide) (lit_cells .i64 [6, 7, 8, 9, 10, 11, 12, 23] _ _ _ (by simp))).mono ?_
  rintro e w' ⟨rfl, rfl⟩
  go_wp2
  go_ret
  exact HP.out _ _ ⟨_, rfl, readNil _, by repeat (first | exact hB1.out | refine below_alloc ?_ _)⟩

set_option maxHeartbeats 800000 in
theorem rsets_6 (d n m imm kind : Int) (w : World) : Calls Try.prog 27 #[instrV 6 d n m imm kind] w (ListPost (setsL 6 d) w) := by
  have HP : Hid (∀ e w', (∃ v, e = .returned v ∧ readRow w' v (setsL 6 d).length (intsZ (setsL 6 d)) ∧ Below w.heap.size w w') → ListPost (setsL 6 d) w e w') := fun _ _ h => h
  have I0 := InstrAt.new w 42 6 d n m imm kind
  go_enter Try.func27, Try.ntmps27
  go_wp2_with fail
  refine (rload_lit _ _ _ _ _ _ _ false rfl).mono ?_
  rintro e w1 ⟨rfl, hb1⟩
  have I1 := I0.below hb1
  have hB1 := Lib.hid (below_trans (below_alloc (Below.refl _ _) _) hb1)
  have hs1 : w.heap.size < w1.heap.size := I1.lt
  clear hb1
  obtain ⟨c0, c1, c2, c3, c4, c5⟩ := I1.cells
  go_wp2_with fail
  refine (is_lit _ [6, 7, 8, 9, 10, 11, 12, 23] true rfl rfl (by decide) (lit_cells .i64 [6, 7, 8, 9, 10, 11, 12, 23] _ _ _ (by simp))).mono ?_
  rintro e w' ⟨rfl, rfl⟩
  go_wp2_with fail
  refine (no31_1 d _ _ _ (by simp)).mono ?_
  rintro e w9 ⟨v, rfl, hown, hb9⟩
  have HO := Lib.hid hown
  clear hown
  go_wp2
  go_ret
  refine HP.out _ _ ⟨_, rfl, ?_, below_trans (by repeat (first | exact hB1.out | refine below_alloc ?_ _)) hb9⟩
  have := readRow_own HO.out
  rw [show no31L [d] = setsL 6 d from rfl] at this
  exact this

set_option maxHeartbeats 800000 in
theorem rsets_7 (d n m imm kind : Int) (w : World) : Calls Try.prog 27 #[instrV 7 d n m imm kind] w (ListPost (setsL 7 d) w) := by
  have HP : Hid (∀ e w', (∃ v, e = .returned v ∧ readRow w' v (setsL 7 d).length (intsZ (setsL 7 d)) ∧ Below w.heap.size w w') → ListPost (setsL 7 d) w e w') := fun _ _ h => h
  have I0 := InstrAt.new w 42 7 d n m imm kind
  go_enter Try.func27, Try.ntmps27
  go_wp2_with fail
  refine (rload_lit _ _ _ _ _ _ _ false rfl).mono ?_
  rintro e w1 ⟨rfl, hb1⟩
  have I1 := I0.below hb1
  have hB1 := Lib.hid (below_trans (below_alloc (Below.refl _ _) _) hb1)
  have hs1 : w.heap.size < w1.heap.size := I1.lt
  clear hb1
  obtain ⟨c0, c1, c2, c3, c4, c5⟩ := I1.cells
  go_wp2_with fail
  refine (is_lit _ [6, 7, 8, 9, 10, 11, 12, 23] true rfl rfl (by decide) (lit_cells .i64 [6, 7, 8, 9, 10, 11, 12, 23] _ _ _ (by simp))).mono ?_
  rintro e w' ⟨rfl, rfl⟩
  go_wp2_with fail
  refine (no31_1 d _ _ _ (by simp)).mono ?_
  rintro e w9 ⟨v, rfl, hown, hb9⟩
  have HO := Lib.hid hown
  clear hown
  go_wp2
  go_ret
  refine HP.out _ _ ⟨_, rfl, ?_, below_trans (by repeat (first | exact hB1.out | refine below_alloc ?_ _)) hb9⟩
  have := readRow_own HO.out
  rw [show no31L [d] = setsL 7 d from rfl] at this
  exact this

set_option maxHeartbeats 800000 in
theorem rsets_8 (d n m imm kind : Int) (w : World) : Calls Try.prog 27 #[instrV 8 d n m imm kind] w (ListPost (setsL 8 d) w) := by
  have HP : Hid (∀ e w', (∃ v, e = .returned v ∧ readRow w' v (setsL 8 d).length (intsZ (setsL 8 d)) ∧ Below w.heap.size w w') → ListPost (setsL 8 d) w e w') := fun _ _ h => h
  have I0 := InstrAt.new w 42 8 d n m imm kind
  go_enter Try.func27, Try.ntmps27
  go_wp2_with fail
  refine (rload_lit _ _ _ _ _ _ _ false rfl).mono ?_
  rintro e w1 ⟨rfl, hb1⟩
  have I1 := I0.below hb1
  have hB1 := Lib.hid (below_trans (below_alloc (Below.refl _ _) _) hb1)
  have hs1 : w.heap.size < w1.heap.size := I1.lt
  clear hb1
  obtain ⟨c0, c1, c2, c3, c4, c5⟩ := I1.cells
  go_wp2_with fail
  refine (is_lit _ [6, 7, 8, 9, 10, 11, 12, 23] true rfl rfl (by decide) (lit_cells .i64 [6, 7, 8, 9, 10, 11, 12, 23] _ _ _ (by simp))).mono ?_
  rintro e w' ⟨rfl, rfl⟩
  go_wp2_with fail
  refine (no31_1 d _ _ _ (by simp)).mono ?_
  rintro e w9 ⟨v, rfl, hown, hb9⟩
  have HO := Lib.hid hown
  clear hown
  go_wp2
  go_ret
  refine HP.out _ _ ⟨_, rfl, ?_, below_trans (by repeat (first | exact hB1.out | refine below_alloc ?_ _)) hb9⟩
  have := readRow_own HO.out
  rw [show no31L [d] = setsL 8 d from rfl] at this
  exact this

set_option maxHeartbeats 800000 in
theorem rsets_9 (d n m imm kind : Int) (w : World) : Calls Try.prog 27 #[instrV 9 d n m imm kind] w (ListPost (setsL 9 d) w) := by
  have HP : Hid (∀ e w', (∃ v, e = .returned v ∧ readRow w' v (setsL 9 d).length (intsZ (setsL 9 d)) ∧ Below w.heap.size w w') → ListPost (setsL 9 d) w e w') := fun _ _ h => h
  have I0 := InstrAt.new w 42 9 d n m imm kind
  go_enter Try.func27, Try.ntmps27
  go_wp2_with fail
  refine (rload_lit _ _ _ _ _ _ _ false rfl).mono ?_
  rintro e w1 ⟨rfl, hb1⟩
  have I1 := I0.below hb1
  have hB1 := Lib.hid (below_trans (below_alloc (Below.refl _ _) _) hb1)
  have hs1 : w.heap.size < w1.heap.size := I1.lt
  clear hb1
  obtain ⟨c0, c1, c2, c3, c4, c5⟩ := I1.cells
  go_wp2_with fail
  refine (is_lit _ [6, 7, 8, 9, 10, 11, 12, 23] true rfl rfl (by decide) (lit_cells .i64 [6, 7, 8, 9, 10, 11, 12, 23] _ _ _ (by simp))).mono ?_
  rintro e w' ⟨rfl, rfl⟩
  go_wp2_with fail
  refine (no31_1 d _ _ _ (by simp)).mono ?_
  rintro e w9 ⟨v, rfl, hown, hb9⟩
  have HO := Lib.hid hown
  clear hown
  go_wp2
  go_ret
  refine HP.out _ _ ⟨_, rfl, ?_, below_trans (by repeat (first | exact hB1.out | refine below_alloc ?_ _)) hb9⟩
  have := readRow_own HO.out
  rw [show no31L [d] = setsL 9 d from rfl] at this
  exact this

set_option maxHeartbeats 800000 in
theorem rsets_10 (d n m imm kind : Int) (w : World) : Calls Try.prog 27 #[instrV 10 d n m imm kind] w (ListPost (setsL 10 d) w) := by
  have HP : Hid (∀ e w', (∃ v, e = .returned v ∧ readRow w' v (setsL 10 d).length (intsZ (setsL 10 d)) ∧ Below w.heap.size w w') → ListPost (setsL 10 d) w e w') := fun _ _ h => h
  have I0 := InstrAt.new w 42 10 d n m imm kind
  go_enter Try.func27, Try.ntmps27
  go_wp2_with fail
  refine (rload_lit _ _ _ _ _ _ _ false rfl).mono ?_
  rintro e w1 ⟨rfl, hb1⟩
  have I1 := I0.below hb1
  have hB1 := Lib.hid (below_trans (below_alloc (Below.refl _ _) _) hb1)
  have hs1 : w.heap.size < w1.heap.size := I1.lt
  clear hb1
  obtain ⟨c0, c1, c2, c3, c4, c5⟩ := I1.cells
  go_wp2_with fail
  refine (is_lit _ [6, 7, 8, 9, 10, 11, 12, 23] true rfl rfl (by decide) (lit_cells .i64 [6, 7, 8, 9, 10, 11, 12, 23] _ _ _ (by simp))).mono ?_
  rintro e w' ⟨rfl, rfl⟩
  go_wp2_with fail
  refine (no31_1 d _ _ _ (by simp)).mono ?_
  rintro e w9 ⟨v, rfl, hown, hb9⟩
  have HO := Lib.hid hown
  clear hown
  go_wp2
  go_ret
  refine HP.out _ _ ⟨_, rfl, ?_, below_trans (by repeat (first | exact hB1.out | refine below_alloc ?_ _)) hb9⟩
  have := readRow_own HO.out
  rw [show no31L [d] = setsL 10 d from rfl] at this
  exact this

set_option maxHeartbeats 800000 in
theorem rsets_11 (d n m imm kind : Int) (w : World) : Calls Try.prog 27 #[instrV 11 d n m imm kind] w (ListPost (setsL 11 d) w) := by
  have HP : Hid (∀ e w', (∃ v, e = .returned v ∧ readRow w' v (setsL 11 d).length (intsZ (setsL 11 d)) ∧ Below w.heap.size w w') → ListPost (setsL 11 d) w e w') := fun _ _ h => h
  have I0 := InstrAt.new w 42 11 d n m imm kind
  go_enter Try.func27, Try.ntmps27
  go_wp2_with fail
  refine (rload_lit _ _ _ _ _ _ _ false rfl).mono ?_
  rintro e w1 ⟨rfl, hb1⟩
  have I1 := I0.below hb1
  have hB1 := Lib.hid (below_trans (below_alloc (Below.refl _ _) _) hb1)
  have hs1 : w.heap.size < w1.heap.size := I1.lt
  clear hb1
  obtain ⟨c0, c1, c2, c3, c4, c5⟩ := I1.cells
  go_wp2_with fail
  refine (is_lit _ [6, 7, 8, 9, 10, 11, 12, 23] true rfl rfl (by decide) (lit_cells .i64 [6, 7, 8, 9, 10, 11, 12, 23] _ _ _ (by simp))).mono ?_
  rintro e w' ⟨rfl, rfl⟩
  go_wp2_with fail
  refine (no31_1 d _ _ _ (by simp)).mono ?_
  rintro e w9 ⟨v, rfl, hown, hb9⟩
  have HO := Lib.hid hown
  clear hown
  go_wp2
  go_ret
  refine HP.out _ _ ⟨_, rfl, ?_, below_trans (by repeat (first | exact hB1.out | refine below_alloc ?_ _)) hb9⟩
  have := readRow_own HO.out
  rw [show no31L [d] = setsL 11 d from rfl] at this
  exact this

set_option maxHeartbeats 800000 in
theorem rsets_12 (d n m imm kind : Int) (w : World) : Calls Try.prog 27 #[instrV 12 d n m imm kind] w (ListPost (setsL 12 d) w) := by
  have HP : Hid (∀ e w', (∃ v, e = .returned v ∧ readRow w' v (setsL 12 d).length (intsZ (setsL 12 d)) ∧ Below w.heap.size w w') → ListPost (setsL 12 d) w e w') := fun _ _ h => h
  have I0 := InstrAt.new w 42 12 d n m imm kind
  go_enter Try.func27, Try.ntmps27
  go_wp2_with fail
  refine (rload_lit _ _ _ _ _ _ _ false rfl).mono ?_
  rintro e w1 ⟨rfl, hb1⟩
  have I1 := I0.below hb1
  have hB1 := Lib.hid (below_trans (below_alloc (Below.refl _ _) _) hb1)
  have hs1 : w.heap.size < w1.heap.size := I1.lt
  clear hb1
  obtain ⟨c0, c1, c2, c3, c4, c5⟩ := I1.cells
  go_wp2_with fail
  refine (is_lit _ [6, 7, 8, 9, 10, 11, 12, 23] true rfl rfl (by decide) (lit_cells .i64 [6, 7, 8, 9, 10, 11, 12, 23] _ _ _ (by simp))).mono ?_
  rintro e w' ⟨rfl, rfl⟩
  go_wp2_with fail
  refine (no31_1 d _ _ _ (by simp)).mono ?_
  rintro e w9 ⟨v, rfl, hown, hb9⟩
  have HO := Lib.hid hown
  clear hown
  go_wp2
  go_ret
  refine HP.out _ _ ⟨_, rfl, ?_, below_trans (by repeat (first | exact hB1.out | refine below_alloc ?_ _)) hb9⟩
  have := readRow_own HO.out
  rw [show no31L [d] = setsL 12 d from rfl] at this
  exact this

set_option maxHeartbeats 800000 in
theorem rsets_13 (d n m imm kind : Int) (w : World) (hd : d ≤ 31) : Calls Try.prog 27 #[instrV 13 d n m imm kind] w (ListPost (setsL 13 d) w) := by
  have HP : Hid (∀ e w', (∃ v, e = .returned v ∧ readRow w' v (setsL 13 d).length (intsZ (setsL 13 d)) ∧ Below w.heap.size w w') → ListPost (setsL 13 d) w e w') := fun _ _ h => h
  have I0 := InstrAt.new w 42 13 d n m imm kind
  go_enter Try.func27, Try.ntmps27
  go_wp2_with fail
  refine (rload_lit _ _ _ _ _ _ _ false rfl).mono ?_
  rintro e w1 ⟨rfl, hb1⟩
  have I1 := I0.below hb1
  have hB1 := Lib.hid (below_trans (below_alloc (Below.refl _ _) _) hb1)
  have hs1 : w.heap.size < w1.heap.size := I1.lt
  clear hb1
  obtain ⟨c0, c1, c2, c3, c4, c5⟩ := I1.cells
  go_wp2_with fail
  refine (is_lit _ [6, 7, 8, 9, 10, 11, 12, 23] false rfl rfl (by decide) (lit_cells .i64 [6, 7, 8, 9, 10, 11, 12, 23] _ _ _ (by simp))).mono ?_
  rintro e w' ⟨rfl, rfl⟩
  go_wp2_with fail
  refine (no31_2 d 32 _ _ _ (by simp)).mono ?_
  rintro e w9 ⟨v, rfl, hown, hb9⟩
  have HO := Lib.hid hown
  clear hown
  go_wp2
  go_ret
  refine HP.out _ _ ⟨_, rfl, ?_, below_trans (by repeat (first | exact hB1.out | refine below_alloc ?_ _)) hb9⟩
  have := readRow_own HO.out
  rw [show no31L [d, 32] = setsL 13 d from sets13 d hd] at this
  exact this

set_option maxHeartbeats 800000 in
theorem rsets_14 (d n m imm kind : Int) (w : World) : Calls Try.prog 27 #[instrV 14 d n m imm kind] w (ListPost (setsL 14 d) w) := by
  have HP : Hid (∀ e w', (∃ v, e = .returned v ∧ readRow w' v (setsL 14 d).length (intsZ (setsL 14 d)) ∧ Below w.heap.size w w') → ListPost (setsL 14 d) w e w') := fun _ _ h => h
  have I0 := InstrAt.new w 42 14 d n m imm kind
  go_enter Try.func27, Try.ntmps27
  go_wp2_with fail
  refine (rload_lit _ _ _ _ _ _ _ false rfl).mono ?_
  rintro e w1 ⟨rfl, hb1⟩
  have I1 := I0.below hb1
  have hB1 := Lib.hid (below_trans (below_alloc (Below.refl _ _) _) hb1)
  have hs1 : w.heap.size < w1.heap.size := I1.lt
  clear hb1
  obtain ⟨c0, c1, c2, c3, c4, c5⟩ := I1.cells
  go_wp2_with fail
  refine (is_lit _ [6, 7, 8, 9, 10, 11, 12, 23] false rfl rfl (by decide) (lit_cells .i64 [6, 7, 8, 9, 10, 11, 12, 23] _ _ _ (by simp))).mono ?_
  rintro e w' ⟨rfl, rfl⟩
  go_wp2
  go_ret
  exact HP.out _ _ ⟨_, rfl, readNil _, by repeat (first | exact hB1.out | refine below_alloc ?_ _)⟩

set_option maxHeartbeats 800000 in
theorem rsets_15 (d n m imm kind : Int) (w : World) : Calls Try.prog 27 #[instrV 15 d n m imm kind] w (ListPost (setsL 15 d) w) := by
  have HP : Hid (∀ e w', (∃ v, e = .returned v ∧ readRow w' v (setsL 15 d).length (intsZ (setsL 15 d)) ∧ Below w.heap.size w w') → ListPost (setsL 15 d) w e w') := fun _ _ h => h
  have I0 := InstrAt.new w 42 15 d n m imm kind
  go_enter Try.func27, Try.ntmps27
  go_wp2_with fail
  refine (rload_lit _ _ _ _ _ _ _ false rfl).mono ?_
  rintro e w1 ⟨rfl, hb1⟩
  have I1 := I0.below hb1
  have hB1 := Lib.hid (below_trans (below_alloc (Below.refl _ _) _) hb1)
  have hs1 : w.heap.size < w1.heap.size := I1.lt
  clear hb1
  obtain ⟨c0, c1, c2, c3, c4, c5⟩ := I1.cells
  go_wp2_with fail
  refine (is_lit _ [6, 7, 8, 9, 10, 11, 12, 23] false rfl rfl (by decide) (lit_cells .i64 [6, 7, 8, 9, 10, 11, 12, 23] _ _ _ (by simp))).mono ?_
  rintro e w' ⟨rfl, rfl⟩
  go_wp2
  go_ret
  exact HP.out _ _ ⟨_, rfl, readNil _, by repeat (first | exact hB1.out | refine below_alloc ?_ _)⟩

set_option maxHeartbeats 800000 in
theorem rsets_16 (d n m imm kind : Int) (w : World) : Calls Try.prog 27 #[instrV 16 d n m imm kind] w (ListPost (setsL 16 d) w) := by
  have HP : Hid (∀ e w', (∃ v, e = .returned v ∧ readRow w' v (setsL 16 d).length (intsZ (setsL 16 d)) ∧ Below w.heap.size w w') → ListPost (setsL 16 d) w e w') := fun _ _ h => h
  have I0 := InstrAt.new w 42 16 d n m imm kind
  go_enter Try.func27, Try.ntmps27
  go_wp2_with fail
  refine (rload_lit _ _ _ _ _ _ _ false rfl).mono ?_
  rintro e w1 ⟨rfl, hb1⟩
  have I1 := I0.below hb1
  have hB1 := Lib.hid (below_trans (below_alloc (Below.refl _ _) _) hb1)
  have hs1 : w.heap.size < w1.heap.size := I1.lt
  clear hb1
  obtain ⟨c0, c1, c2, c3, c4, c5⟩ := I1.cells
  go_wp2_with fail
  refine (is_lit _ [6, 7, 8, 9, 10, 11, 12, 23] false rfl rfl (by decide) (lit_cells .i64 [6, 7, 8, 9, 10, 11, 12, 23] _ _ _ (by simp))).mono ?_
  rintro e w' ⟨rfl, rfl⟩
  go_wp2
  go_ret
  exact HP.out _ _ ⟨_, rfl, readNil _, by repeat (first | exact hB1.out | refine below_alloc ?_ _)⟩

set_option maxHeartbeats 800000 in
theorem rsets_17 (d n m imm kind : Int) (w : World) : Calls Try.prog 27 #[instrV 17 d n m imm kind] w (ListPost (setsL 17 d) w) := by
  have HP : Hid (∀ e w', (∃ v, e = .returned v ∧ readRow w' v (setsL 17 d).length (intsZ (setsL 17 d)) ∧ Below w.heap.size w w') → ListPost (setsL 17 d) w e w') := fun _ _ h => h
  have I0 := InstrAt.new w 42 17 d n m imm kind
  go_enter Try.func27, Try.ntmps27
  go_wp2_with fail
  refine (rload_lit _ _ _ _ _ _ _ false rfl).mono ?_
  rintro e w1 ⟨rfl, hb1⟩
  have I1 := I0.below hb1
  have hB1 := Lib.hid (below_trans (below_alloc (Below.refl _ _) _) hb1)
  have hs1 : w.heap.size < w1.heap.size := I1.lt
  clear hb1
  obtain ⟨c0, c1, c2, c3, c4, c5⟩ := I1.cells
  go_wp2_with fail
  refine (is_lit _ [6, 7, 8, 9, 10, 11, 12, 23] false rfl rfl (by decide) (lit_cells .i64 [6, 7, 8, 9, 10, 11, 12, 23] _ _ _ (by simp))).mono ?_
  rintro e w' ⟨rfl, rfl⟩
  go_wp2
  go_ret
  exact HP.out _ _ ⟨_, rfl, readNil _, by repeat (first | exact hB1.out | refine below_alloc ?_ _)⟩

set_option maxHeartbeats 800000 in
theorem rsets_18 (d n m imm kind : Int) (w : World) : Calls Try.prog 27 #[instrV 18 d n m imm kind] w (ListPost (setsL 18 d) w) := by
  have HP : Hid (∀ e w', (∃ v, e = .returned v ∧ readRow w' v (setsL 18 d).length (intsZ (setsL 18 d)) ∧ Below w.heap.size w w') → ListPost (setsL 18 d) w e w') := fun _ _ h => h
  have I0 := InstrAt.new w 42 18 d n m imm kind
  go_enter Try.func27, Try.ntmps27
  go_wp2_with fail
  refine (rload_lit _ _ _ _ _ _ _ false rfl).mono ?_
  rintro e w1 ⟨rfl, hb1⟩
  have I1 := I0.below hb1
  have hB1 := Lib.hid (below_trans (below_alloc (Below.refl _ _) _) hb1)
  have hs1 : w.heap.size < w1.heap.size := I1.lt
  clear hb1
  obtain ⟨c0, c1, c2, c3, c4, c5⟩ := I1.cells
  go_wp2_with fail
  refine (is_lit _ [6, 7, 8, 9, 10, 11, 12, 23] false rfl rfl (by decide) (lit_cells .i64 [6, 7, 8, 9, 10, 11, 12, 23] _ _ _ (by simp))).mono ?_
  rintro e w' ⟨rfl, rfl⟩
  go_wp2
  go_ret
  exact HP.out _ _ ⟨_, rfl, readNil _, by repeat (first | exact hB1.out | refine below_alloc ?_ _)⟩

set_option maxHeartbeats 800000 in
theorem rsets_19 (d n m imm kind : Int) (w : World) : Calls Try.prog 27 #[instrV 19 d n m imm kind] w (ListPost (setsL 19 d) w) := by
  have HP : Hid (∀ e w', (∃ v, e = .returned v ∧ readRow w' v (setsL 19 d).length (intsZ (setsL 19 d)) ∧ Below w.heap.size w w') → ListPost (setsL 19 d) w e w') := fun _ _ h => h
  have I0 := InstrAt.new w 42 19 d n m imm kind
  go_enter Try.func27, Try.ntmps27
  go_wp2_with fail
  refine (rload_lit _ _ _ _ _ _ _ false rfl).mono ?_
  rintro e w1 ⟨rfl, hb1⟩
  have I1 := I0.below hb1
  have hB1 := Lib.hid (below_trans (below_alloc (Below.refl _ _) _) hb1)
  have hs1 : w.heap.size < w1.heap.size := I1.lt
  clear hb1
  obtain ⟨c0, c1, c2, c3, c4, c5⟩ := I1.cells
  go_wp2_with fail
  refine (is_lit _ [6, 7, 8, 9, 10, 11, 12, 23] false rfl rfl (by decide) (lit_cells .i64 [6, 7, 8, 9, 10, 11, 12, 23] _ _ _ (by simp))).mono ?_
  rintro e w' ⟨rfl, rfl⟩
  go_wp2
  go_ret
  exact HP.out _ _ ⟨_, rfl, readNil _, by repeat (first | exact hB1.out | refine below_alloc ?_ _)⟩

set_option maxHeartbeats 800000 in
theorem rsets_20 (d n m imm kind : Int) (w : World) : Calls Try.prog 27 #[instrV 20 d n m imm kind] w (ListPost (setsL 20 d) w) := by
  have HP : Hid (∀ e w', (∃ v, e = .returned v ∧ readRow w' v (setsL 20 d).length (intsZ (setsL 20 d)) ∧ Below w.heap.size w w') → ListPost (setsL 20 d) w e w') := fun _ _ h => h
  have I0 := InstrAt.new w 42 20 d n m imm kind
  go_enter Try.func27, Try.ntmps27
  go_wp2_with fail
  refine (rload_lit _ _ _ _ _ _ _ false rfl).mono ?_
  rintro e w1 ⟨rfl, hb1⟩
  have I1 := I0.below hb1
  have hB1 := Lib.hid (below_trans (below_alloc (Below.refl _ _) _) hb1)
  have hs1 : w.heap.size < w1.heap.size := I1.lt
  clear hb1
  obtain ⟨c0, c1, c2, c3, c4, c5⟩ := I1.cells
  go_wp2_with fail
  refine (is_lit _ [6, 7, 8, 9, 10, 11, 12, 23] false rfl rfl (by decide) (lit_cells .i64 [6, 7, 8, 9, 10, 11, 12, 23] _ _ _ (by simp))).mono ?_
  rintro e w' ⟨rfl, rfl⟩
  go_wp2
  go_ret
  exact HP.out _ _ ⟨_, rfl, readNil _, by repeat (first | exact hB1.out | refine below_alloc ?_ _)⟩

set_option maxHeartbeats 800000 in
theorem rsets_21 (d n m imm kind : Int) (w : World) : Calls Try.prog 27 #[instrV 21 d n m imm kind] w (ListPost (setsL 21 d) w) := by
  have HP : Hid (∀ e w', (∃ v, e = .returned v ∧ readRow w' v (setsL 21 d).length (intsZ (setsL 21 d)) ∧ Below w.heap.size w w') → ListPost (setsL 21 d) w e w') := fun _ _ h => h
  have I0 := InstrAt.new w 42 21 d n m imm kind
  go_enter Try.func27, Try.ntmps27
  go_wp2_with fail
  refine (rload_lit _ _ _ _ _ _ _ false rfl).mono ?_
  rintro e w1 ⟨rfl, hb1⟩
  have I1 := I0.below hb1
  have hB1 := Lib.hid (below_trans (below_alloc (Below.refl _ _) _) hb1)
  have hs1 : w.heap.size < w1.heap.size := I1.lt
  clear hb1
  obtain ⟨c0, c1, c2, c3, c4, c5⟩ := I1.cells
  go_wp2_with fail
  refine (is_lit _ [6, 7, 8, 9, 10, 11, 12, 23] false rfl rfl (by decide) (lit_cells .i64 [6, 7, 8, 9, 10, 11, 12, 23] _ _ _ (by simp))).mono ?_
  rintro e w' ⟨rfl, rfl⟩
  go_wp2
  go_ret
  exact HP.out _ _ ⟨_, rfl, readNil _, by repeat (first | exact hB1.out | refine below_alloc ?_ _)⟩

set_option maxHeartbeats 800000 in
theorem rsets_22 (d n m imm kind : Int) (w : World) : Calls Try.prog 27 #[instrV 22 d n m imm kind] w (ListPost (setsL 22 d) w) := by
  have HP : Hid (∀ e w', (∃ v, e = .returned v ∧ readRow w' v (setsL 22 d).length (intsZ (setsL 22 d)) ∧ Below w.heap.size w w') → ListPost (setsL 22 d) w e w') := fun _ _ h => h
  have I0 := InstrAt.new w 42 22 d n m imm kind
  go_enter Try.func27, Try.ntmps27
  go_wp2_with fail
  refine (rload_lit _ _ _ _ _ _ _ false rfl).mono ?_
  rintro e w1 ⟨rfl, hb1⟩
  have I1 := I0.below hb1
  have hB1 := Lib.hid (below_trans (below_alloc (Below.refl _ _) _) hb1)
  have hs1 : w.heap.size < w1.heap.size := I1.lt
  clear hb1
  obtain ⟨c0, c1, c2, c3, c4, c5⟩ := I1.cells
  go_wp2_with fail
  refine (is_lit _ [6, 7, 8, 9, 10, 11, 12, 23] false rfl rfl (by decide) (lit_cells .i64 [6, 7, 8, 9, 10, 11, 12, 23] _ _ _ (by simp))).mono ?_
  rintro e w' ⟨rfl, rfl⟩
  go_wp2
  go_ret
  exact HP.out _ _ ⟨_, rfl, readNil _, by repeat (first | exact hB1.out | refine below_alloc ?_ _)⟩

set_option maxHeartbeats 800000 in
theorem rsets_23 (d n m imm kind : Int) (w : World) : Calls Try.prog 27 #[instrV 23 d n m imm kind] w (ListPost (setsL 23 d) w) := by
  have HP : Hid (∀ e w', (∃ v, e = .returned v ∧ readRow w' v (setsL 23 d).length (intsZ (setsL 23 d)) ∧ Below w.heap.size w w') → ListPost (setsL 23 d) w e w') := fun _ _ h => h
  have I0 := InstrAt.new w 42 23 d n m imm kind
  go_enter Try.func27, Try.ntmps27
  go_wp2_with fail
  refine (rload_lit _ _ _ _ _ _ _ false rfl).mono ?_
  rintro e w1 ⟨rfl, hb1⟩
  have I1 := I0.below hb1
  have hB1 := Lib.hid (below_trans (below_alloc (Below.refl _ _) _) hb1)
  have hs1 : w.heap.size < w1.heap.size := I1.lt
  clear hb1
  obtain ⟨c0, c1, c2, c3, c4, c5⟩ := I1.cells
  go_wp2_with fail
  refine (is_lit _ [6, 7, 8, 9, 10, 11, 12, 23] true rfl rfl (by decide) (lit_cells .i64 [6, 7, 8, 9, 10, 11, 12, 23] _ _ _ (by simp))).mono ?_
  rintro e w' ⟨rfl, rfl⟩
  go_wp2_with fail
  refine (no31_1 d _ _ _ (by simp)).mono ?_
  rintro e w9 ⟨v, rfl, hown, hb9⟩
  have HO := Lib.hid hown
  clear hown
  go_wp2
  go_ret
  refine HP.out _ _ ⟨_, rfl, ?_, below_trans (by repeat (first | exact hB1.out | refine below_alloc ?_ _)) hb9⟩
  have := readRow_own HO.out
  rw [show no31L [d] = setsL 23 d from rfl] at this
  exact this

theorem rsets_any (op d n m imm kind : Int) (w : World) (h : opB op = true) (hd : d ≤ 31) : Calls Try.prog 27 #[instrV op d n m imm kind] w (ListPost (setsL op d) w) := by
  rcases opB_cases h with rfl | rfl | rfl | rfl | rfl | rfl | rfl | rfl | rfl | rfl | rfl | rfl | rfl | rfl | rfl | rfl | rfl | rfl | rfl | rfl | rfl | rfl | rfl
  · exact rsets_1 d n m imm kind w
  · exact rsets_2 d n m imm kind w
  · exact rsets_3 d n m imm kind w
  · exact rsets_4 d n m imm kind w
  · exact rsets_5 d n m imm kind w
  · exact rsets_6 d n m imm kind w
  · exact rsets_7 d n m imm kind w
  · exact rsets_8 d n m imm kind w
  · exact rsets_9 d n m imm kind w
  · exact rsets_10 d n m imm kind w
  · exact rsets_11 d n m imm kind w
  · exact rsets_12 d n m imm kind w
  · exact rsets_13 d n m imm kind w hd
  · exact rsets_14 d n m imm kind w
  · exact rsets_15 d n m imm kind w
  · exact rsets_16 d n m imm kind w
  · exact rsets_17 d n m imm kind w
  · exact rsets_18 d n m imm kind w
  · exact rsets_19 d n m imm kind w
  · exact rsets_20 d n m imm kind w
  · exact rsets_21 d n m imm kind w
  · exact rsets_22 d n m imm kind w
  · exact rsets_23 d n m imm kind w

end Go.Proofs.Ytikflhigenijdaa
