/- The instruction behind any one is the next one, or where a branch leads. -/
import Derived.Test.YtikflhigenijdaaRows
import Derived.Test.YtikflhigenijdaaBase
import Derived.ShutString
import Derived.ChangeOld
import Derived.Lib.SmallJoins
import Derived.Test.YtikflhigenijdaaRegsAwake
import Derived.Test.YtikflhigenijdaaRegsRef
import Derived.Test.YtikflhigenijdaaRight3
import Derived.Test.YtikflhigenijdaaInstrOpen
import Derived.Test.YtikflhigenijdaaInstrAt
namespace Go.Proofs.Ytikflhigenijdaa.regsNext
open Go.ChangeShapes Go.WideShapes Go.ChangeAt Go.RowKit
open Go.ChangeMaps (open_string shut_string)
set_option linter.unusedVariables false

theorem own : ownKnob Try.prog.godebug = none := by kernel_rfl
theorem laidOut : laidOutB Try.prog = true := by kernel_rfl

theorem next_imm {pc op imm : Int} {tk : Bool} (h : (tk && (op == 14 || branchB op)) = true) (hp : 0 ≤ pc ∧ pc ≤ 1048576) (hi : -33554432 ≤ imm ∧ imm ≤ 33554431) : nextZ pc op imm tk = pc + imm := by
  unfold nextZ; rw [h, if_pos rfl]; exact IntWalk.wrap64_in _ (by omega)
theorem next_one {pc op imm : Int} {tk : Bool} (h : (tk && (op == 14 || branchB op)) = false) (hp : 0 ≤ pc ∧ pc ≤ 1048576) : nextZ pc op imm tk = pc + 1 := by
  unfold nextZ; rw [h]; exact IntWalk.wrap64_in _ (by omega)

set_option maxHeartbeats 800000 in
theorem walk (pc op d n m imm kind : Int) (tk : Bool) (w : World) (w0 : (Lit.int .i64 pc).wf = true) :
    Calls Try.prog 4 #[.int .i64 pc, instrV op d n m imm kind, .bool tk] w fun e w' => e = .returned (.bool true) ∧ Below w.heap.size w w' := by
  have I0 := InstrAt.new w 42 op d n m imm kind
  go_enter Try.func4, Try.ntmps4
  go_wp2_with fail
  refine (awake_any _).mono ?_
  rintro e w1 ⟨rfl, hb1⟩
  have I1 := I0.below hb1
  have hB1 : Below w.heap.size w w1 := below_trans (below_alloc (Below.refl _ _) _) hb1
  clear hb1 I0
  obtain ⟨c0, c1, c2, c3, c4, c5⟩ := I1.cells
  go_wp2_with fail
  refine (right_any _ _ _ _ _ _ _).mono ?_
  rintro e w2 ⟨b, rfl, hr, hb2⟩
  have I2 := I1.below hb2
  have hB2 := below_trans hB1 hb2
  clear hb2 hB1 c0 c1 c2 c3 c4 c5 w0
  obtain ⟨c0, c1, c2, c3, c4, c5⟩ := I2.cells
  cases b
  · clear hr
    go_wp2
    go_ret
    exact ⟨rfl, hB2⟩
  · obtain ⟨_, _, _, _, _, _, _, _, hi⟩ := hr rfl
    clear hr
    by_cases p1 : pc < 0
    · go_wp2
      go_ret
      exact ⟨rfl, hB2⟩
    by_cases p2 : 1048576 < pc
    · go_wp2
      go_ret
      exact ⟨rfl, hB2⟩
    have hp : 0 ≤ pc ∧ pc ≤ 1048576 := by omega
    cases tk
    · have hn := next_one (pc := pc) (op := op) (imm := imm) (tk := false) rfl hp
      go_wp2_with (go_at_call 17; refine (next_any _ _ _ _ _ _ _ _ _).mono ?_; rintro e w9 ⟨rfl, hb9⟩)
      go_ret
      exact ⟨rfl, below_trans hB2 hb9⟩
    cases q1 : op == 14
    · cases q2 : branchB op
      · have hn := next_one (pc := pc) (op := op) (imm := imm) (tk := true) (by rw [q1, q2]; rfl) hp
        go_wp2_with fail
        refine (rbranch_any _ _ _ _ _ _ _).mono ?_
        rintro e w3 ⟨rfl, hb3⟩
        have I3 := I2.below hb3
        have hB3 := below_trans hB2 hb3
        clear hb3 c0 c1 c2 c3 c4 c5
        obtain ⟨c0, c1, c2, c3, c4, c5⟩ := I3.cells
        go_wp2_with (go_at_call 17; refine (next_any _ _ _ _ _ _ _ _ _).mono ?_; rintro e w9 ⟨rfl, hb9⟩)
        go_ret
        exact ⟨rfl, below_trans hB3 hb9⟩
      · have hn := next_imm (pc := pc) (op := op) (imm := imm) (tk := true) (by rw [q1, q2]; rfl) hp hi
        go_wp2_with fail
        refine (rbranch_any _ _ _ _ _ _ _).mono ?_
        rintro e w3 ⟨rfl, hb3⟩
        have I3 := I2.below hb3
        have hB3 := below_trans hB2 hb3
        clear hb3 c0 c1 c2 c3 c4 c5
        obtain ⟨c0, c1, c2, c3, c4, c5⟩ := I3.cells
        go_wp2_with (go_at_call 17; refine (next_any _ _ _ _ _ _ _ _ _).mono ?_; rintro e w9 ⟨rfl, hb9⟩)
        go_ret
        exact ⟨rfl, below_trans hB3 hb9⟩
    · have hn := next_imm (pc := pc) (op := op) (imm := imm) (tk := true) (by rw [q1]; rfl) hp hi
      go_wp2_with (go_at_call 17; refine (next_any _ _ _ _ _ _ _ _ _).mono ?_; rintro e w9 ⟨rfl, hb9⟩)
      go_ret
      exact ⟨rfl, below_trans hB2 hb9⟩

set_option maxRecDepth 100000 in
theorem lifted (os : Os) (started : os.Started) (H : Type) (enc : TypeId × Value → H) :
    ReturnsInHanded {} Try.checked os 4 .any (Rows.regsNextSpec.pre6 enc Try.prog Try.f4 Rows.regsNextRow.domain false) (Rows.regsNextSpec.post enc Try.prog Try.f4 false true false false) := by
  refine returnsInHanded_of_change (C := Try.checked) own started (by kernel_rfl) Try.func4
    (ChangeSpec.witness6 (enc := enc) (C := Try.checked) false ⟨#[], #[.int .i64 0, .agg #[.int .i64 0, .int .i64 0, .int .i64 0, .int .i64 0, .int .i64 0, .int .i64 0], .bool false], []⟩ 8 (by kernel_rfl) (by kernel_rfl) (by kernel_rfl) (by kernel_rfl)) ?_
  intro W base args ds gs before hval0 hW hcnd _
  have hval : ∀ (j : Nat) t v, Try.f4.params[j]? = some t → args[j]? = some v → Value.okWide Try.prog W .any base t v := hval0
  have hW' := hW
  obtain ⟨p, q, hA0, hV, rfl, hfz, hnd⟩ := hW
  have hA : DataW.TrodAll enc Try.prog W 0 (fun _ => true) true Try.f4.params.toList args.toList ds p := hA0
  rw [Try.params4] at hA hval
  obtain ⟨v0, vs0, d0, ds0, p0, q0, hargs, rfl, rfl, h0, r0⟩ := trodAll_cons hA
  obtain ⟨v1, vs1, d1, ds1, p1, q1, rfl, rfl, rfl, h1, r1⟩ := trodAll_cons r0
  obtain ⟨v2, vs2, d2, ds2, p2, q2, rfl, rfl, rfl, h2, r2⟩ := trodAll_cons r1
  obtain ⟨rfl, rfl, rfl⟩ := trodAll_nil r2
  obtain rfl : args = #[v0, v1, v2] := by cases args; simp_all
  obtain ⟨rfl, rfl⟩ := trodVars_none hV
  obtain ⟨a0, rfl, rfl, rfl, w0⟩ := open_int Try.underlying3 (hval 0 3 v0 rfl rfl) h0
  have k1 := h1
  have lt1 : ∀ x ∈ p1, x.block < W.heap.size := by obtain ⟨m, hm⟩ := k1; exact DataW.trod_lt m _ _ _ hm
  obtain ⟨o1, x1, n1, m1, y1, c1, rfl, wz1⟩ := open_instr (hval 1 42 v1 rfl rfl) h1
  obtain ⟨a2, rfl, rfl, rfl⟩ := open_bool Try.underlying4 (hval 2 4 v2 rfl rfl) h2
  clear hA0 hval0
  refine (walk a0 o1 x1 n1 m1 y1 c1 a2 W w0).mono fun e W' ⟨he, bel⟩ => ?_
  subst he
  exact ⟨_, rfl, _, _, _, [], _, [], hW', trodAll_mk1 (shut_bool Try.underlying4 _), (trodAll_cons_mk (shut_int Try.underlying3 w0) (trodAll_cons_mk (Below.trod laidOut (by kernel_rfl) (of_decide_eq_true (by kernel_rfl)) k1 bel lt1) (trodAll_cons_mk (shut_bool Try.underlying4 _) trodAll_mk0))), rfl, bel.frame _, fun h => by cases h⟩

theorem over : Rows.regsNextRow.holds Try.pinned (OpenSpec.ofChange Rows.regsNextSpec) :=
  OpenClaim.holds_of_wide 4 Try.f4 rfl rfl rfl rfl rfl rfl rfl ⟨rfl, rfl, rfl, rfl, rfl⟩ rfl rfl rfl rfl rfl (by kernel_rfl) Try.func4 (by kernel_rfl)
    (of_decide_eq_true (by kernel_rfl)) (by unfold Func.isWrapper; first | (rw [if_pos (by decide +kernel)]; kernel_rfl) | (rw [if_neg (by decide +kernel)]; exact ⟨rfl, rfl⟩))
    (fun os started H enc _ => lifted os started H enc)

theorem proved : Rows.RegsNextSaid := over
#print axioms proved
end Go.Proofs.Ytikflhigenijdaa.regsNext
