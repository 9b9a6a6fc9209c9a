/- Registers have their names, and are found by them. -/
import Derived.Test.YtlhkjjfdmglabaaRows
import Derived.Test.YtlhkjjfdmglabaaBase
import Derived.ShutString
import Derived.ChangeOld
import Derived.Lib.SmallJoins
import Derived.Test.YtlhkjjfdmglabaaAsmAwake
import Derived.Test.YtlhkjjfdmglabaaAsmName
namespace Go.Proofs.Ytlhkjjfdmglabaa.asmRegs
open Go.ChangeShapes Go.WideShapes Go.ChangeAt Go.RowKit
open Go.ChangeMaps (open_string shut_string)
set_option linter.unusedVariables false
set_option linter.unusedSimpArgs false

theorem own : ownKnob Try.prog.godebug = none := by kernel_rfl
theorem laidOut : laidOutB Try.prog = true := by kernel_rfl

/-- The last register below a bound that a text names. -/
def lastN (s : ByteArray) : Nat → Int
  | 0 => -1
  | k + 1 => if s = ba (regL (k : Nat)) then (k : Int) else lastN s k
theorem regL_inj {i j : Nat} (hi : i < 32) (hj : j < 32) (h : ba (regL (i : Int)) = ba (regL (j : Int))) : i = j := by
  have hh : ∀ i : Nat, i < 32 → ∀ j : Nat, j < 32 → regL (i : Int) = regL (j : Int) → i = j := by decide +kernel
  have h2 : regL (i : Int) = regL (j : Int) := by have := congrArg (fun b => b.data.toList) h; simpa [ba_data] using this
  exact hh i hi j hj h2
theorem last_none {s : ByteArray} : ∀ k, (∀ i, i < k → ¬ s = ba (regL (i : Nat))) → lastN s k = -1
  | 0, _ => rfl
  | k + 1, h => by
    unfold lastN
    rw [if_neg (h k (by omega))]
    exact last_none k fun i hi => h i (by omega)
theorem last_hit {s : ByteArray} {j : Nat} (hs : s = ba (regL (j : Nat))) : ∀ k, k ≤ 32 → j < k → lastN s k = j
  | 0, _, h => by omega
  | k + 1, hk, h => by
    unfold lastN
    by_cases e : s = ba (regL (k : Nat))
    · rw [if_pos e]
      have := regL_inj (i := j) (j := k) (by omega) (by omega) (hs.symm.trans e)
      omega
    · rw [if_neg e]
      have hjk : j ≠ k := by rintro rfl; exact e hs
      exact last_hit hs k (by omega) (by omega)
theorem regN_last (s : ByteArray) : (∃ j, regN s = some j ∧ lastN s 32 = (j : Nat) ∧ j < 32) ∨ (regN s = none ∧ lastN s 32 = -1) := by
  cases h : regN s with
  | some j =>
    left
    have h1 := regN_lt h
    unfold regN at h
    rw [List.find?_range_eq_some] at h
    exact ⟨j, rfl, last_hit (by simpa using h.1) 32 (by omega) h1, h1⟩
  | none =>
    right
    unfold regN at h
    rw [List.find?_range_eq_none] at h
    exact ⟨rfl, last_none 32 fun i hi => by simpa using h i hi⟩
set_option maxRecDepth 100000 in
set_option maxHeartbeats 1600000 in
theorem walk (n : Int) (s : ByteArray) (w : World) (w0 : (Lit.int .i64 n).wf = true) (w1 : s.size ≤ maxLen) :
    Calls Try.prog 6 #[.int .i64 n, .string s] w fun e w' => e = .returned (.bool true) ∧ Below w.heap.size w w' := by
  have hn : -9223372036854775808 ≤ n ∧ n ≤ 9223372036854775807 := by
    simp [Lit.wf, IntKind.min, IntKind.max, IntKind.bits, IntKind.signed] at w0
    omega
  clear w0 w1
  have HN := Lib.hid (fun w1 => numberOf_any s w1)
  have HR := Lib.hid (fun w1 => regasm_any n w1 hn)
  have HRR := Lib.hid (fun w1 => rreg_any n w1 hn)
  have HL := Lib.hid (regN_last s)
  generalize regN s = R at *
  go_enter Try.func6, Try.ntmps6
  go_wp2_with fail
  refine (awake_any _).mono ?_
  rintro e w2 ⟨rfl, hb⟩
  have HB := Lib.hid hb
  clear hb
  go_wp2_with fail
  refine (HN.out _).mono ?_
  rintro e w3 ⟨rfl, m3, rfl⟩
  have HW : Hid (∃ z b, regNV R = .tuple #[.int .i64 z, .bool b] ∧ ((b = true ∧ z = lastN s 32 ∧ 0 ≤ z ∧ z < 32) ∨ (b = false ∧ z = 0 ∧ lastN s 32 = -1))) := by
    rcases HL.out with ⟨j, rfl, h1, h2⟩ | ⟨rfl, h1⟩
    · exact ⟨j, true, rfl, .inl ⟨rfl, h1.symm, by omega, by omega⟩⟩
    · exact ⟨0, false, rfl, .inr ⟨rfl, rfl, h1⟩⟩
  obtain ⟨z, b, hz, hzb⟩ := HW.out
  rw [hz]
  have HZ := Lib.hid hzb
  clear HW hz hzb HL HN
  go_wp2_with fail
  go_loopw [7, 8] (fun v i wr => ∃ k : Nat, k ≤ 32 ∧ i = .int .i64 k ∧ v = .int .i64 (lastN s k) ∧ ∃ j, wr = w2.drewN j) (fun _ i _ => 32 - (intOf i).toNat)
  case atStart => exact ⟨0, by omega, rfl, rfl, m3, rfl⟩
  case round =>
    obtain ⟨k, hk, rfl, rfl, j, rfl⟩ := hrel
    by_cases hkl : k < 32
    · have hk0 : (0 : Int) ≤ k := by omega
      have hkn : (k : Int) ≤ 31 := by omega
      have HC := Lib.hid (rreg_any (k : Int) (w2.drewN j) (by omega))
      have HS1 := Lib.hid (fun (h : s = ba (regL (k : Nat))) => show lastN s (k + 1) = (k : Int) from if_pos h)
      have HS2 := Lib.hid (fun (h : ¬ s = ba (regL (k : Nat))) => show lastN s (k + 1) = lastN s k from if_neg h)
      have HNE := Lib.hid (fun (h : ¬ ba (regL (k : Nat)) = s) => toList_ne h)
      obtain ⟨x, hx⟩ : ∃ x, x = ba (regL (k : Nat)) := ⟨_, rfl⟩
      rw [← hx] at HC HS1 HS2 HNE
      clear hx
      go_wp2_with fail
      refine (HC.out).mono ?_
      rintro e w4 ⟨rfl, m4, rfl⟩
      by_cases hs : s = x
      · have HV := Lib.hid (HS1.out hs)
        subst hs
        clear HS1 HS2 HNE HC
        go_wp2_with fail
        go_roundw
        case rel => exact ⟨k + 1, by omega, by go_num, by rw [HV.out], _, rfl⟩
        case measure => simp [intOf] <;> omega
      · have HV := Lib.hid (HS2.out hs)
        have he := HNE.out (fun h => hs h.symm)
        clear HS1 HS2 HNE HC hs
        go_wp2_with fail
        go_roundw
        case rel => exact ⟨k + 1, by omega, by go_num, by rw [HV.out], _, rfl⟩
        case measure => simp [intOf] <;> omega
    · obtain rfl : k = 32 := by omega
      generalize lastN s 32 = L at *
      rcases HZ.out with ⟨rfl, rfl, h1, h2⟩ | ⟨rfl, rfl, rfl⟩
      all_goals
        go_wp2_with fail
        refine (HR.out _).mono ?_
        rintro e w5 ⟨rfl, m5, rfl⟩
        go_wp2_with fail
        refine (HRR.out _).mono ?_
        rintro e w6 ⟨rfl, m6, rfl⟩
        go_wp2_with fail
        go_ret
        exact ⟨rfl, below_drewN HB.out _⟩

set_option maxRecDepth 100000 in
theorem lifted (os : Os) (started : os.Started) (H : Type) (enc : TypeId × Value → H) :
    ReturnsInHanded {} Try.checked os 6 .any (Rows.asmRegsSpec.pre6 enc Try.prog Try.f6 Rows.asmRegsRow.domain false) (Rows.asmRegsSpec.post enc Try.prog Try.f6 false true false false) := by
  refine returnsInHanded_of_change (C := Try.checked) own started (by kernel_rfl) Try.func6
    (ChangeSpec.witness6 (enc := enc) (C := Try.checked) false ⟨#[], #[.int .i64 0, .string ByteArray.empty], []⟩ 8 (by kernel_rfl) (by kernel_rfl) (by kernel_rfl) (by kernel_rfl)) ?_
  intro W base args ds gs before hval0 hW hcnd _
  have hval : ∀ (j : Nat) t v, Try.f6.params[j]? = some t → args[j]? = some v → Value.okWide Try.prog W .any base t v := hval0
  have hW' := hW
  obtain ⟨p, q, hA0, hV, rfl, hfz, hnd⟩ := hW
  have hA : DataW.TrodAll enc Try.prog W 0 (fun _ => true) true Try.f6.params.toList args.toList ds p := hA0
  rw [Try.params6] at hA hval
  obtain ⟨v0, vs0, d0, ds0, p0, q0, hargs, rfl, rfl, h0, r0⟩ := trodAll_cons hA
  obtain ⟨v1, vs1, d1, ds1, p1, q1, rfl, rfl, rfl, h1, r1⟩ := trodAll_cons r0
  obtain ⟨rfl, rfl, rfl⟩ := trodAll_nil r1
  obtain rfl : args = #[v0, v1] := by cases args; simp_all
  obtain ⟨rfl, rfl⟩ := trodVars_none hV
  obtain ⟨a0, rfl, rfl, rfl, w0⟩ := open_int Try.underlying3 (hval 0 3 v0 rfl rfl) h0
  obtain ⟨a1, rfl, rfl, rfl, w1⟩ := open_string Try.underlying9 (hval 1 9 v1 rfl rfl) h1
  clear hA0 hval0
  refine (walk a0 a1 W w0 w1).mono fun e W' ⟨he, bel⟩ => ?_
  subst he
  exact ⟨_, rfl, _, _, _, [], _, [], hW', trodAll_mk1 (shut_bool Try.underlying4 _), (trodAll_cons_mk (shut_int Try.underlying3 w0) (trodAll_cons_mk (shut_string Try.underlying9 w1) trodAll_mk0)), rfl, bel.frame _, fun h => by cases h⟩

theorem over : Rows.asmRegsRow.holds Try.pinned (OpenSpec.ofChange Rows.asmRegsSpec) :=
  OpenClaim.holds_of_wide 6 Try.f6 rfl rfl rfl rfl rfl rfl rfl ⟨rfl, rfl, rfl, rfl, rfl⟩ rfl rfl rfl rfl rfl (by kernel_rfl) Try.func6 (by kernel_rfl)
    (of_decide_eq_true (by kernel_rfl)) (by unfold Func.isWrapper; first | (rw [if_pos (by decide +kernel)]; kernel_rfl) | (rw [if_neg (by decide +kernel)]; exact ⟨rfl, rfl⟩))
    (fun os started H enc _ => lifted os started H enc)

theorem proved : Rows.AsmRegsSaid := over
#print axioms proved
end Go.Proofs.Ytlhkjjfdmglabaa.asmRegs
