/- A row has any room that may be, or is refused; so is more room. -/
import Derived.Test.YtckejjpillcdgaaRows
import Derived.Test.YtckejjpillcdgaaBase
import Derived.ShutString
import Derived.ChangeOld
import Derived.Lib.SmallJoins
import Derived.Test.YtckejjpillcdgaaQueueLaw
namespace Go.Proofs.Ytckejjpillcdgaa.queueRooms
open Go.ChangeShapes Go.WideShapes Go.ChangeAt Go.RowKit
open Go.ChangeMaps (open_string shut_string)
set_option linter.unusedVariables false
set_option linter.unusedSimpArgs false

theorem own : ownKnob Try.prog.godebug = none := by kernel_rfl
theorem laidOut : laidOutB Try.prog = true := by kernel_rfl

theorem xs_x : vals_string [⟨#[120]⟩] = [Value.string ⟨#[120]⟩] := rfl
theorem nats {n : Int} (h : 0 ≤ n) : ∃ k : Nat, n = k := Int.eq_ofNat_of_zero_le h

set_option maxHeartbeats 1000000 in
theorem walk (room more : Int) (w : World) (_ : (Lit.int .i64 room).wf = true) (_ : (Lit.int .i64 more).wf = true) :
    Calls Try.prog 5 #[.int .i64 room, .int .i64 more] w fun e w' => e = .returned (.bool true) ∧ Below w.heap.size w w' := by
  by_cases hno : room < 1 ∨ 200000 < room
  · have HNO := Lib.hid hno
    by_cases h1 : room < 1
    all_goals
      first | have h2 : room < 1 := h1 | have h2 : 200000 < room := by omega
      clear hno
      go_enter Try.func5, Try.ntmps5
      go_wp2_with fail
      refine (awake_any _).mono ?_
      rintro e w1 ⟨rfl, hb1⟩
      go_wp2_with fail
      refine (q_new_no_string room HNO.out _).mono ?_
      rintro e w2 ⟨rfl, rfl⟩
      go_wp2
      go_ret
      exact ⟨rfl, hb1⟩
  · have r1 : 1 ≤ room := by omega
    have r2 : room ≤ 200000 := by omega
    clear hno
    obtain ⟨n, rfl⟩ := nats (show 0 ≤ room by omega)
    have n1 : 1 ≤ n := by omega
    have n2 : n ≤ 200000 := by omega
    by_cases hm : more < 0 ∨ 200000 - (n : Int) < more
    · have HM := Lib.hid hm
      by_cases m1 : more < 0
      all_goals
        first | have m2 : more < 0 := m1 | have m2 : 200000 - (n : Int) < more := by omega
        clear hm
        go_enter Try.func5, Try.ntmps5
        go_wp2_with fail
        refine (awake_any _).mono ?_
        rintro e w1 ⟨rfl, hb1⟩
        have HB1 := Lib.hid hb1
        clear hb1
        go_wp2_with fail
        refine (q_new_string n n1 n2 _).mono ?_
        rintro e w2 ⟨gq, c, rfl, hq, hb2⟩
        have HQ := Lib.hid (hq.mono (B' := w.heap.size) HB1.out.size)
        have HB2 := Lib.hid (below_trans HB1.out hb2)
        clear hq hb2
        go_wp2_with fail
        refine (q_room_string HQ.out (by omega) (by simp)).mono ?_
        rintro e w3 ⟨rfl, rfl⟩
        go_wp2_with fail
        refine (q_len_string HQ.out (by omega) (by simp)).mono ?_
        rintro e w3 ⟨rfl, rfl⟩
        go_wp2_with fail
        refine (q_put_string ⟨#[120]⟩ HQ.out (by simp; omega)).mono ?_
        rintro e w4 ⟨rfl, hq4, hg4⟩
        have HB4 := Lib.hid (HB2.out.trans (HQ.out.belowB hg4))
        have HQ4 := Lib.hid hq4
        clear hq4 hg4
        go_wp2_with fail
        refine (q_grown_no_string more HQ4.out (by simp) n1 n2 HM.out).mono ?_
        rintro e w5 ⟨rfl, rfl⟩
        go_wp2_with fail
        refine (q_len_string HQ4.out (by omega) (by simp)).mono ?_
        rintro e w5 ⟨rfl, rfl⟩
        go_wp2
        go_ret
        exact ⟨rfl, HB4.out⟩
    · have m1 : 0 ≤ more := by omega
      have m2 : more ≤ 200000 - (n : Int) := by omega
      clear hm
      obtain ⟨m, rfl⟩ := nats m1
      have mm : n + m ≤ 200000 := by omega
      have e1 : ((n + m : Nat) : Int) = (n : Int) + m := by omega
      go_enter Try.func5, Try.ntmps5
      go_wp2_with fail
      refine (awake_any _).mono ?_
      rintro e w1 ⟨rfl, hb1⟩
      have HB1 := Lib.hid hb1
      clear hb1
      go_wp2_with fail
      refine (q_new_string n n1 n2 _).mono ?_
      rintro e w2 ⟨gq, c, rfl, hq, hb2⟩
      have HQ := Lib.hid (hq.mono (B' := w.heap.size) HB1.out.size)
      have HB2 := Lib.hid (below_trans HB1.out hb2)
      clear hq hb2
      go_wp2_with fail
      refine (q_room_string HQ.out (by omega) (by simp)).mono ?_
      rintro e w3 ⟨rfl, rfl⟩
      go_wp2_with fail
      refine (q_len_string HQ.out (by omega) (by simp)).mono ?_
      rintro e w3 ⟨rfl, rfl⟩
      go_wp2_with fail
      refine (q_put_string ⟨#[120]⟩ HQ.out (by simp; omega)).mono ?_
      rintro e w4 ⟨rfl, hq4, hg4⟩
      have HB4 := Lib.hid (HB2.out.trans (HQ.out.belowB hg4))
      have HQ4 := Lib.hid (show QRow w4 60 w.heap.size gq c n (vals_string [⟨#[120]⟩]) from hq4)
      clear hq4 hg4
      go_wp2_with fail
      refine (q_grown_string m [⟨#[120]⟩] HQ4.out (by simp; omega) n1 mm).mono ?_
      rintro e w5 ⟨gq2, c2, rfl, hq5, hq6, hg5⟩
      have HB5 := Lib.hid (HB4.out.trans (HQ4.out.belowB hg5))
      have HQ5 := Lib.hid hq5
      have HQ6 := Lib.hid hq6
      clear hq5 hq6 hg5
      go_wp2_with fail
      refine (q_room_string HQ5.out (by omega) (by simp [vals_string])).mono ?_
      rintro e w6 ⟨rfl, rfl⟩
      go_wp2_with fail
      refine (q_len_string HQ6.out (by omega) (by simp)).mono ?_
      rintro e w6 ⟨rfl, rfl⟩
      go_wp2_with fail
      refine (q_take_string ⟨#[120]⟩ HQ5.out).mono ?_
      rintro e w7 ⟨rfl, _, hg7⟩
      have HB7 := Lib.hid (HB5.out.trans (HQ5.out.belowB hg7))
      clear hg7
      go_wp2
      go_ret
      exact ⟨rfl, HB7.out⟩

set_option maxRecDepth 100000 in
theorem lifted (os : Os) (started : os.Started) (H : Type) (enc : TypeId × Value → H) :
    ReturnsInHanded {} Try.checked os 5 .any (Rows.queueRoomsSpec.pre6 enc Try.prog Try.f5 Rows.queueRoomsRow.domain false) (Rows.queueRoomsSpec.post enc Try.prog Try.f5 false true false false) := by
  refine returnsInHanded_of_change (C := Try.checked) own started (by kernel_rfl) Try.func5
    (ChangeSpec.witness6 (enc := enc) (C := Try.checked) false ⟨#[], #[.int .i64 0, .int .i64 0], []⟩ 8 (by kernel_rfl) (by kernel_rfl) (by kernel_rfl) (by kernel_rfl)) ?_
  intro W base args ds gs before hval0 hW hcnd _
  have hval : ∀ (j : Nat) t v, Try.f5.params[j]? = some t → args[j]? = some v → Value.okWide Try.prog W .any base t v := hval0
  have hW' := hW
  obtain ⟨p, q, hA0, hV, rfl, hfz, hnd⟩ := hW
  have hA : DataW.TrodAll enc Try.prog W 0 (fun _ => true) true Try.f5.params.toList args.toList ds p := hA0
  rw [Try.params5] at hA hval
  obtain ⟨v0, vs0, d0, ds0, p0, q0, hargs, rfl, rfl, h0, r0⟩ := trodAll_cons hA
  obtain ⟨v1, vs1, d1, ds1, p1, q1, rfl, rfl, rfl, h1, r1⟩ := trodAll_cons r0
  obtain ⟨rfl, rfl, rfl⟩ := trodAll_nil r1
  obtain rfl : args = #[v0, v1] := by cases args; simp_all
  obtain ⟨rfl, rfl⟩ := trodVars_none hV
  obtain ⟨a0, rfl, rfl, rfl, w0⟩ := open_int Try.underlying3 (hval 0 3 v0 rfl rfl) h0
  obtain ⟨a1, rfl, rfl, rfl, w1⟩ := open_int Try.underlying3 (hval 1 3 v1 rfl rfl) h1
  clear hA0 hval0
  refine (walk a0 a1 W w0 w1).mono fun e W' ⟨he, bel⟩ => ?_
  subst he
  exact ⟨_, rfl, _, _, _, [], _, [], hW', trodAll_mk1 (shut_bool Try.underlying4 _), (trodAll_cons_mk (shut_int Try.underlying3 w0) (trodAll_cons_mk (shut_int Try.underlying3 w1) trodAll_mk0)), rfl, bel.frame _, fun h => by cases h⟩

theorem over : Rows.queueRoomsRow.holds Try.pinned (OpenSpec.ofChange Rows.queueRoomsSpec) :=
  OpenClaim.holds_of_wide 5 Try.f5 rfl rfl rfl rfl rfl rfl rfl ⟨rfl, rfl, rfl, rfl, rfl⟩ rfl rfl rfl rfl rfl (by kernel_rfl) Try.func5 (by kernel_rfl)
    (of_decide_eq_true (by kernel_rfl)) (by unfold Func.isWrapper; first | (rw [if_pos (by decide +kernel)]; kernel_rfl) | (rw [if_neg (by decide +kernel)]; exact ⟨rfl, rfl⟩))
    (fun os started H enc _ => lifted os started H enc)

theorem proved : Rows.QueueRoomsSaid := over
#print axioms proved
end Go.Proofs.Ytckejjpillcdgaa.queueRooms
