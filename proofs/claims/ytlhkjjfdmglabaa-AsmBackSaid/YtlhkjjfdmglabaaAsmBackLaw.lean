/- Each instruction is read from its own text. -/
import Derived.Test.YtlhkjjfdmglabaaRows
import Derived.Test.YtlhkjjfdmglabaaBase
import Derived.ShutString
import Derived.ChangeOld
import Derived.Lib.SmallJoins
import Derived.Test.YtlhkjjfdmglabaaAsmAwake
import Derived.Test.YtlhkjjfdmglabaaAsmBack
import Derived.Test.YtlhkjjfdmglabaaAsmRight3
import Derived.Test.YtlhkjjfdmglabaaInstrOpen
namespace Go.Proofs.Ytlhkjjfdmglabaa.asmBack
open Go.ChangeShapes Go.WideShapes Go.ChangeAt Go.RowKit
open Go.ChangeMaps (open_string shut_string)
set_option linter.unusedVariables false
set_option linter.unusedSimpArgs false

theorem own : ownKnob Try.prog.godebug = none := by kernel_rfl
theorem laidOut : laidOutB Try.prog = true := by kernel_rfl

theorem wf_i64_bd {z : Int} (h : (Lit.int .i64 z).wf = true) : I64 z := by
  have h' := h
  simp [Lit.wf, IntKind.min, IntKind.max, IntKind.bits, IntKind.signed] at h'
  omega
theorem lens {op : Int} (ho : 1 ≤ op ∧ op ≤ 23) (k : Int) : (nameL op).length ≤ 4 ∧ (barL k).length ≤ 5 ∧ (flushL k).length ≤ 9 ∧ (sysL k).length ≤ 7 := by
  refine ⟨?_, ?_, ?_, ?_⟩
  · have h : ∀ j : Nat, j < 24 → (nameL (j : Int)).length ≤ 4 := by decide
    have h1 := h op.toNat (by omega)
    rw [Int.toNat_of_nonneg (by omega)] at h1; exact h1
  · unfold barL
    repeat (split; · decide)
    decide
  · unfold flushL
    repeat (split; · decide)
    decide
  · unfold sysL
    repeat (split; · decide)
    decide
theorem textA_len {op d n m imm kind : Int} (h : rightP op d n m imm kind) (hi : I64 imm) : (textA op d n m imm kind).length ≤ 1000 := by
  obtain ⟨⟨hop, hd, hn, hm⟩, hB, hC, hD⟩ := h
  have hk : I64 kind := by unfold rightB at hB; unfold rightC at hC; unfold rightD at hD; constructor <;> omega
  have hk6 : op = 6 → 0 ≤ kind ∧ kind ≤ 3 := by unfold rightC at hC; omega
  have b1 := intL_len imm hi
  have b2 := regL_len d (by constructor <;> omega)
  have b3 := regL_len n (by constructor <;> omega)
  have b4 := regL_len m (by constructor <;> omega)
  obtain ⟨b5, b6, b7, b8⟩ := lens hop kind
  have b9 : (immL imm).length ≤ 66 := by unfold immL; simp; omega
  have b10 : (targetL imm).length ≤ 67 := by unfold targetL; split <;> (simp; omega)
  have b11 : op = 6 → (intL (16 * kind)).length ≤ 65 := fun e => intL_len _ (by have := hk6 e; constructor <;> omega)
  clear hB hC hD hk6
  have ho : op = 1 ∨ op = 2 ∨ op = 3 ∨ op = 4 ∨ op = 5 ∨ op = 6 ∨ op = 7 ∨ op = 8 ∨ op = 9 ∨ op = 10 ∨ op = 11 ∨ op = 12 ∨ op = 13 ∨ op = 14 ∨ op = 15 ∨ op = 16 ∨ op = 17 ∨ op = 18 ∨ op = 19 ∨ op = 20 ∨ op = 21 ∨ op = 22 ∨ op = 23 := by omega
  rcases ho with rfl | rfl | rfl | rfl | rfl | rfl | rfl | rfl | rfl | rfl | rfl | rfl | rfl | rfl | rfl | rfl | rfl | rfl | rfl | rfl | rfl | rfl | rfl
  all_goals (simp [textA, threeL])
  all_goals (try split)
  all_goals (try simp)
  all_goals (try omega)
theorem textA_ne {op d n m imm kind : Int} (h : rightP op d n m imm kind) : (textA op d n m imm kind).isEmpty = false := by
  cases hh : textA op d n m imm kind with
  | cons c l => rfl
  | nil =>
    have h1 := back_words h
    rw [hh] at h1
    have h2 : (instrA (wordsL [], false)).2.2 = true := by kernel_rfl
    rw [h1] at h2
    cases h2
set_option maxRecDepth 100000 in
set_option maxHeartbeats 1600000 in
theorem walk (op d n m imm kind : Int) (w : World) (hi : I64 imm) :
    Calls Try.prog 4 #[.agg #[.int .i64 op, .int .i64 d, .int .i64 n, .int .i64 m, .int .i64 imm, .int .i64 kind]] w fun e w' => e = .returned (.bool true) ∧ Below w.heap.size w w' := by
  have HX := Lib.hid (own_instr w op d n m imm kind)
  have HB := Lib.hid (below_alloc (Below.refl w.heap.size w) (.cells #[.int .i64 op, .int .i64 d, .int .i64 n, .int .i64 m, .int .i64 imm, .int .i64 kind] 23))
  have HP := Lib.hid (fun w1 => aprint_any op d n m imm kind w1 hi)
  have HR3 := Lib.hid (fun w1 => right3_any op d n m imm kind w1)
  go_enter Try.func4, Try.ntmps4
  go_wp2_with fail
  refine (awake_any _).mono ?_
  rintro e w2 ⟨rfl, hb⟩
  have HX2 := Lib.hid (HX.out.below hb)
  have HB2 := Lib.hid (below_trans HB.out hb)
  have hl2 := HX2.out.lt
  obtain ⟨n0, n1, n2, n3, n4, n5⟩ := blk_instr HX2.out
  clear hb HX HB
  go_wp2_with fail
  refine (HP.out _).mono ?_
  rintro e w3 ⟨rfl, hb⟩
  have HX3 := Lib.hid (HX2.out.below hb)
  have HB3 := Lib.hid (below_trans HB2.out hb)
  have hl3 := HX3.out.lt
  clear n0 n1 n2 n3 n4 n5 hb HX2 HB2
  obtain ⟨n0, n1, n2, n3, n4, n5⟩ := blk_instr HX3.out
  by_cases hr : rightP op d n m imm kind
  · have HT := Lib.hid (show printA op d n m imm kind = textA op d n m imm kind from if_pos hr)
    have htl := textA_len hr hi
    have HPA := Lib.hid (fun w1 => aparse_any (ba (textA op d n m imm kind)) w1 (by rw [ba_size]; omega))
    rw [ba_data, back_any hr rfl] at HPA
    have hte : (ba (textA op d n m imm kind)).toList.isEmpty = false := by rw [ba_toList]; exact textA_ne hr
    rw [HT.out]
    clear HT htl hr
    generalize textA op d n m imm kind = T at *
    go_wp2_with fail
    refine (HPA.out _).mono ?_
    rintro e w4 ⟨rfl, hb⟩
    have HX4 := Lib.hid (HX3.out.below hb)
    have HB4 := Lib.hid (below_trans HB3.out hb)
    have hl4 := HX4.out.lt
    clear n0 n1 n2 n3 n4 n5 hb HX3 HB3
    obtain ⟨n0, n1, n2, n3, n4, n5⟩ := blk_instr HX4.out
    simp only [insV, instrW]
    go_wp2_with fail
    go_ret
    exact ⟨rfl, by repeat (first | exact HB4.out | refine below_alloc ?_ _)⟩
  · have HT := Lib.hid (show printA op d n m imm kind = [] from if_neg hr)
    rw [right_not hr] at HR3
    rw [HT.out]
    have hte : (ba []).toList.isEmpty = true := by rw [ba_toList]; rfl
    clear hr HT
    go_wp2_with fail
    refine (HR3.out _).mono ?_
    rintro e w4 ⟨rfl, hb⟩
    have HB4 := Lib.hid (below_trans HB3.out hb)
    clear hb
    go_wp2_with fail
    go_ret
    exact ⟨rfl, HB4.out⟩

set_option maxRecDepth 100000 in
theorem lifted (os : Os) (started : os.Started) (H : Type) (enc : TypeId × Value → H) :
    ReturnsInHanded {} Try.checked os 4 .any (Rows.asmBackSpec.pre6 enc Try.prog Try.f4 Rows.asmBackRow.domain false) (Rows.asmBackSpec.post enc Try.prog Try.f4 false true false false) := by
  refine returnsInHanded_of_change (C := Try.checked) own started (by kernel_rfl) Try.func4
    (ChangeSpec.witness6 (enc := enc) (C := Try.checked) false ⟨#[], #[.agg #[.int .i64 0, .int .i64 0, .int .i64 0, .int .i64 0, .int .i64 0, .int .i64 0]], []⟩ 8 (by kernel_rfl) (by kernel_rfl) (by kernel_rfl) (by kernel_rfl)) ?_
  intro W base args ds gs before hval0 hW hcnd _
  have hval : ∀ (j : Nat) t v, Try.f4.params[j]? = some t → args[j]? = some v → Value.okWide Try.prog W .any base t v := hval0
  have hW' := hW
  obtain ⟨p, q, hA0, hV, rfl, hfz, hnd⟩ := hW
  have hA : DataW.TrodAll enc Try.prog W 0 (fun _ => true) true Try.f4.params.toList args.toList ds p := hA0
  rw [Try.params4] at hA hval
  obtain ⟨v0, vs0, d0, ds0, p0, q0, hargs, rfl, rfl, h0, r0⟩ := trodAll_cons hA
  obtain ⟨rfl, rfl, rfl⟩ := trodAll_nil r0
  obtain rfl : args = #[v0] := by cases args; simp_all
  obtain ⟨rfl, rfl⟩ := trodVars_none hV
  have k0 := h0
  have lt0 : ∀ x ∈ p0, x.block < W.heap.size := by obtain ⟨m, hm⟩ := k0; exact DataW.trod_lt m _ _ _ hm
  obtain ⟨o0, x0, n0, m0, y0, c0, rfl, wz0⟩ := open_instr (hval 0 23 v0 rfl rfl) h0
  clear hA0 hval0
  refine (walk o0 x0 n0 m0 y0 c0 W (wf_i64_bd (wz0 _ (by simp)))).mono fun e W' ⟨he, bel⟩ => ?_
  subst he
  exact ⟨_, rfl, _, _, _, [], _, [], hW', trodAll_mk1 (shut_bool Try.underlying4 _), (trodAll_cons_mk (Below.trod laidOut (by kernel_rfl) (of_decide_eq_true (by kernel_rfl)) k0 bel lt0) trodAll_mk0), rfl, bel.frame _, fun h => by cases h⟩

theorem over : Rows.asmBackRow.holds Try.pinned (OpenSpec.ofChange Rows.asmBackSpec) :=
  OpenClaim.holds_of_wide 4 Try.f4 rfl rfl rfl rfl rfl rfl rfl ⟨rfl, rfl, rfl, rfl, rfl⟩ rfl rfl rfl rfl rfl (by kernel_rfl) Try.func4 (by kernel_rfl)
    (of_decide_eq_true (by kernel_rfl)) (by unfold Func.isWrapper; first | (rw [if_pos (by decide +kernel)]; kernel_rfl) | (rw [if_neg (by decide +kernel)]; exact ⟨rfl, rfl⟩))
    (fun os started H enc _ => lifted os started H enc)

theorem proved : Rows.AsmBackSaid := over
#print axioms proved
end Go.Proofs.Ytlhkjjfdmglabaa.asmBack
