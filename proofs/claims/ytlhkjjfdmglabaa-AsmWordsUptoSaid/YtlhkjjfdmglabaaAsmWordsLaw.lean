/- Any text is split into its parts: asm.Words answers as the document does; where what is read is of bulk at most 1048576. -/
import Derived.Test.YtlhkjjfdmglabaaRows
import Derived.Test.YtlhkjjfdmglabaaBase
import Derived.ShutString
import Derived.ChangeOld
import Derived.JoinedCond
import Derived.Lib.SmallJoins
import Derived.Test.YtlhkjjfdmglabaaAsmAwake
import Derived.Test.YtlhkjjfdmglabaaAsmRWords
namespace Go.Proofs.Ytlhkjjfdmglabaa.asmWords
open Go.ChangeShapes Go.WideShapes Go.ChangeAt Go.RowKit
open Go.ChangeMaps (open_string shut_string)
set_option linter.unusedVariables false
set_option linter.unusedSimpArgs false

theorem own : ownKnob Try.prog.godebug = none := by kernel_rfl
theorem laidOut : laidOutB Try.prog = true := by kernel_rfl

set_option maxRecDepth 100000 in
set_option maxHeartbeats 1600000 in
theorem walk (a0 : ByteArray) (w : World) (w0 : a0.size ≤ 1048576) :
    Calls Try.prog 5 #[.string a0] w fun e w' => e = .returned (.bool true) ∧ Below w.heap.size w w' := by
  have hlen := wordsL_len a0.data.toList
  have hsz : a0.data.toList.length = a0.size := by rw [← Lib.size_eq]
  have H1 := Lib.hid (fun w1 => words_any a0 w1 (by omega))
  have H2 := Lib.hid (fun w1 => rwords_any a0 w1 (by omega))
  unfold SomeWords at H1 H2
  generalize wordsL a0.data.toList = l at *
  rw [hsz] at hlen
  clear hsz
  go_enter Try.func5, Try.ntmps5
  go_wp2_with fail
  refine (awake_any _).mono ?_
  rintro e w2 ⟨rfl, hb⟩
  have HB2 := Lib.hid hb
  clear hb
  go_wp2_with fail
  refine (H1.out _).mono ?_
  rintro e w3 ⟨v, rfl, ho, hb⟩
  have HB3 := Lib.hid (below_trans HB2.out hb)
  obtain ⟨p, c, rfl, hR, hc⟩ := Rds.of_own ho
  have HR := Lib.hid hR
  clear hb HB2 ho hR
  go_wp2_with fail
  refine (H2.out _).mono ?_
  rintro e w4 ⟨v, rfl, ho, hb⟩
  have HB4 := Lib.hid (below_trans HB3.out hb)
  obtain ⟨p2, c2, rfl, hR2, hc2⟩ := Rds.of_own ho
  have HR2 := Lib.hid hR2
  have HR1 := Lib.hid (HR.out.below hb)
  clear hb HB3 ho hR2 HR
  go_wp2_with fail
  go_loopw [5] (fun i wr => ∃ k : Nat, k ≤ l.length ∧ i = .int .i64 k ∧ ∃ j, wr = w4.drewN j) (fun i _ => l.length - (intOf i).toNat)
  case atStart => exact ⟨0, by omega, rfl, 0, rfl⟩
  case round =>
    obtain ⟨k, hk, rfl, j, rfl⟩ := hrel
    by_cases hkl : k < l.length
    · have hk0 : (0 : Int) ≤ k := by omega
      have hkn : (k : Int) < l.length := by omega
      obtain ⟨g, off, u, rfl, hu, hcell⟩ := HR1.out.at_ (j := k) (by omega)
      obtain ⟨g2, off2, u2, rfl, hu2, hcell2⟩ := HR2.out.at_ (j := k) (by omega)
      have he : u2 = u := by rw [hu] at hu2; injection hu2 with h; exact h.symm
      subst he
      obtain ⟨x, rfl⟩ : ∃ x : ByteArray, u2 = .string x := by
        simp only [List.getElem?_map] at hu
        cases hh : l[k]? with
        | none => rw [hh] at hu; cases hu
        | some q => rw [hh] at hu; injection hu with hu; exact ⟨_, hu.symm⟩
      clear hu hu2
      go_wp2_with fail
      go_quiet (fail)
      go_wp2_with fail
      go_roundw
      case rel => exact ⟨k + 1, by omega, by go_num, _, rfl⟩
      case measure => simp [intOf] <;> omega
    · obtain rfl : k = l.length := by omega
      go_wp2_with fail
      go_ret
      exact ⟨rfl, below_drewN HB4.out _⟩

set_option maxRecDepth 100000 in
theorem lifted (os : Os) (started : os.Started) (H : Type) (enc : TypeId × Value → H) (F : Stop.Interp) :
    ReturnsInHanded {} Try.checked os 5 .any ((Rows.OpenSpec.upto Rows.asmWordsSpec).pre6 enc Try.prog Try.f5 Rows.asmWordsUptoRow.domain false) (((Rows.OpenSpec.upto Rows.asmWordsSpec).at F).post enc Try.prog Try.f5 false true false false) := by
  refine returnsInHanded_of_cond (C := Try.checked) (s := Rows.OpenSpec.upto Rows.asmWordsSpec) (k := Rows.uptoSmall) rfl own started (by kernel_rfl) Try.func5
    (OpenSpec.witness (enc := enc) (C := Try.checked) (s := Rows.OpenSpec.upto Rows.asmWordsSpec) (k := Rows.uptoSmall) rfl false ⟨#[], #[.string ByteArray.empty], []⟩ 8 (by kernel_rfl) (by kernel_rfl) (by kernel_rfl)
      (x := ([.lit (.string [])], [], [])) (by kernel_rfl) rfl (by kernel_rfl)) ?_
  intro W base args ds gs before hval0 hW _ hk0 _
  have hval : ∀ (j : Nat) t v, Try.f5.params[j]? = some t → args[j]? = some v → Value.okWide Try.prog W .any base t v := hval0
  have hW' := hW
  obtain ⟨p, q, hA0, hV, rfl, hfz, hnd⟩ := hW
  have hA : DataW.TrodAll enc Try.prog W 0 (fun _ => true) true Try.f5.params.toList args.toList ds p := hA0
  rw [Try.params5] at hA hval
  obtain ⟨v0, vs0, d0, ds0, p0, q0, hargs, rfl, rfl, h0, r0⟩ := trodAll_cons hA
  obtain ⟨rfl, rfl, rfl⟩ := trodAll_nil r0
  obtain rfl : args = #[v0] := by cases args; simp_all
  obtain ⟨rfl, rfl⟩ := trodVars_none hV
  obtain ⟨a0, rfl, rfl, rfl, w0⟩ := open_string Try.underlying9 (hval 0 9 v0 rfl rfl) h0
  have hk : Rows.uptoBulkAll _ ≤ 1048576 := of_decide_eq_true hk0
  simp only [List.cons_append, List.nil_append, List.append_nil, Rows.uptoBulkAll, Rows.uptoBulk, Array.length_toList] at hk
  clear hA0 hval0
  refine (walk a0 W (by have e : a0.data.size = a0.size := rfl; omega)).mono fun e W' ⟨he, bel⟩ => ?_
  subst he
  exact ⟨_, rfl, _, _, _, [], _, [], hW', trodAll_mk1 (shut_bool Try.underlying4 _), (trodAll_cons_mk (shut_string Try.underlying9 w0) trodAll_mk0), rfl, bel.frame _, fun h => by cases h⟩

theorem over : Rows.asmWordsUptoRow.holds Try.pinned (Rows.OpenSpec.upto Rows.asmWordsSpec) :=
  OpenClaim.holds_of_cond 5 Try.f5 rfl rfl rfl rfl rfl rfl rfl ⟨rfl, rfl, rfl, rfl, rfl⟩ rfl rfl rfl rfl rfl (by kernel_rfl) Try.func5 (by kernel_rfl)
    (of_decide_eq_true (by kernel_rfl)) (by unfold Func.isWrapper; first | (rw [if_pos (by decide +kernel)]; kernel_rfl) | (rw [if_neg (by decide +kernel)]; exact ⟨rfl, rfl⟩))
    (fun os started H enc _ F => lifted os started H enc F)

theorem proved : Rows.AsmWordsUptoSaid := over
#print axioms proved
end Go.Proofs.Ytlhkjjfdmglabaa.asmWords
