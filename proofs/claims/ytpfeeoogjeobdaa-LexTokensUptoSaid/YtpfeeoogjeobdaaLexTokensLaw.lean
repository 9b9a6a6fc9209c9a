/- Any line is tokens, or refused at its first fault: lex.Tokens answers as the document does; where what is read is of bulk at most 1048576. -/
import Derived.Test.YtpfeeoogjeobdaaRows
import Derived.Test.YtpfeeoogjeobdaaBase
import Derived.ShutString
import Derived.ChangeOld
import Derived.JoinedCond
import Derived.Lib.SmallJoins
import Derived.Test.YtpfeeoogjeobdaaLexAwake
import Derived.Test.YtpfeeoogjeobdaaLexRTokens
namespace Go.Proofs.Ytpfeeoogjeobdaa.lexTokens
open Go.ChangeShapes Go.WideShapes Go.ChangeAt Go.RowKit
open Go.ChangeMaps (open_string shut_string)
set_option linter.unusedVariables false
set_option linter.unusedSimpArgs false

theorem own : ownKnob Try.prog.godebug = none := by kernel_rfl
theorem laidOut : laidOutB Try.prog = true := by kernel_rfl

theorem toksF_len : ∀ (n : Nat) (s : ByteArray) (i : Nat) (acc : List (Nat × Nat × Nat)), s.size - i = n → (toksF s i acc).1.length ≤ acc.length + (s.size - i) + 1 := by
  intro n
  induction n using Nat.strongRecOn with
  | _ n ih =>
    intro s i acc hn
    rw [toksF]
    by_cases h : i < s.size
    · rw [dif_pos h]
      by_cases h9 : (stepF s i).1 = 9
      · rw [if_pos h9]; simp
      · rw [if_neg h9]
        by_cases h2 : i < (stepF s i).2.1
        · rw [dif_pos h2]
          have := ih (s.size - (stepF s i).2.1) (by omega) s (stepF s i).2.1 (if (stepF s i).1 = 0 then acc else acc ++ [((stepF s i).1, i, (stepF s i).2.1)]) rfl
          split at this
          · rename_i h0; rw [if_pos h0]; omega
          · rename_i h0; rw [if_neg h0]; simp at this; omega
        · rw [dif_neg h2]; simp
    · rw [dif_neg h]; simp

set_option maxHeartbeats 800000 in
theorem walk (a0 : ByteArray) (a1 : Int) (w : World) (w0 : a0.size ≤ 1048576) :
    Calls Try.prog 3 #[.string a0, .int .i64 a1] w fun e w' => e = .returned (.bool true) ∧ Below w.heap.size w w' := by
  by_cases h1 : 0 ≤ a1
  · by_cases h2 : a1 ≤ 1099511627776
    · obtain ⟨at_, rfl⟩ := Int.eq_ofNat_of_zero_le h1
      go_enter Try.func3, Try.ntmps3
      go_wp2_with fail
      refine (awake_any _).mono ?_
      rintro e w1 ⟨rfl, hb1⟩
      have HB := Lib.hid hb1
      clear hb1
      go_wp2_with fail
      refine (tokens_any a0 at_ _ w0 (by omega)).mono ?_
      rintro e w2 ⟨v, rfl, ho, hb⟩
      have HB2 := Lib.hid (below_trans HB.out hb)
      have HO := Lib.hid ho
      clear hb HB ho
      have HRT := Lib.hid (fun w1 => rtokens_any a0 at_ w1 w0 (by omega))
      have HL := toksF_len _ a0 0 [] rfl
      unfold RTokPost at HRT
      generalize (toksF a0 0 []).2.1 = code at *
      generalize toksAt at_ (toksF a0 0 []) = place at *
      generalize (toksF a0 0 []).1 = l at *
      go_wp2_with fail
      refine (HRT.out _).mono ?_
      rintro e w3 ⟨v2, rfl, ho3, hb3⟩
      obtain ⟨p, c, rfl, hr, hc⟩ := Rds.of_own HO.out
      obtain ⟨p2, c2, rfl, hr2, hc2⟩ := Rds.of_own ho3
      have HR2 := Lib.hid hr2
      have hx : w2.heap.size < w3.heap.size := by have := hb3.size; simp at this; omega
      have HR := Lib.hid ((hr.below (below_alloc (Below.refl _ _) _)).below hb3)
      have HB3 := Lib.hid (below_trans (below_alloc HB2.out _) hb3)
      have hq := fun j => (hb3.cell (p := ⟨w2.heap.size, j, none⟩) (by simp))
      have e0 : w3.cell? ⟨w2.heap.size, 0, none⟩ = some (.int .i64 code) := (hq 0).trans (by simp)
      have e1 : w3.cell? ⟨w2.heap.size, 1, none⟩ = some (.int .i64 place) := (hq 1).trans (by simp)
      have HS := Lib.hid (fun w1 => same_tokens a0 at_ l p p2 c c2 w1 (by simp at HL; omega))
      clear HO hr hr2 hb3 ho3 hq HRT HB2
      go_wp2_with (go_at_call 10; refine (HS.out _ HR.out HR2.out hc hc2).mono ?_; rintro e w' ⟨rfl, m, rfl⟩)
      go_ret
      exact ⟨rfl, below_drewN HB3.out _⟩
    · go_enter Try.func3, Try.ntmps3
      go_wp2_with (go_at_call 7; refine (awake_any _).mono ?_; rintro e w1 ⟨rfl, hb1⟩)
      go_ret
      exact ⟨rfl, hb1⟩
  · go_enter Try.func3, Try.ntmps3
    go_wp2_with (go_at_call 7; refine (awake_any _).mono ?_; rintro e w1 ⟨rfl, hb1⟩)
    go_ret
    exact ⟨rfl, hb1⟩

set_option maxRecDepth 100000 in
theorem lifted (os : Os) (started : os.Started) (H : Type) (enc : TypeId × Value → H) (F : Stop.Interp) :
    ReturnsInHanded {} Try.checked os 3 .any ((Rows.OpenSpec.upto Rows.lexTokensSpec).pre6 enc Try.prog Try.f3 Rows.lexTokensUptoRow.domain false) (((Rows.OpenSpec.upto Rows.lexTokensSpec).at F).post enc Try.prog Try.f3 false true false false) := by
  refine returnsInHanded_of_cond (C := Try.checked) (s := Rows.OpenSpec.upto Rows.lexTokensSpec) (k := Rows.uptoSmall) rfl own started (by kernel_rfl) Try.func3
    (OpenSpec.witness (enc := enc) (C := Try.checked) (s := Rows.OpenSpec.upto Rows.lexTokensSpec) (k := Rows.uptoSmall) rfl false ⟨#[], #[.string ByteArray.empty, .int .i64 0], []⟩ 8 (by kernel_rfl) (by kernel_rfl) (by kernel_rfl)
      (x := ([.lit (.string []), .lit (.int .i64 0)], [], [])) (by kernel_rfl) rfl (by kernel_rfl)) ?_
  intro W base args ds gs before hval0 hW _ hk0 _
  have hval : ∀ (j : Nat) t v, Try.f3.params[j]? = some t → args[j]? = some v → Value.okWide Try.prog W .any base t v := hval0
  have hW' := hW
  obtain ⟨p, q, hA0, hV, rfl, hfz, hnd⟩ := hW
  have hA : DataW.TrodAll enc Try.prog W 0 (fun _ => true) true Try.f3.params.toList args.toList ds p := hA0
  rw [Try.params3] at hA hval
  obtain ⟨v0, vs0, d0, ds0, p0, q0, hargs, rfl, rfl, h0, r0⟩ := trodAll_cons hA
  obtain ⟨v1, vs1, d1, ds1, p1, q1, rfl, rfl, rfl, h1, r1⟩ := trodAll_cons r0
  obtain ⟨rfl, rfl, rfl⟩ := trodAll_nil r1
  obtain rfl : args = #[v0, v1] := by cases args; simp_all
  obtain ⟨rfl, rfl⟩ := trodVars_none hV
  obtain ⟨a0, rfl, rfl, rfl, w0⟩ := open_string Try.underlying9 (hval 0 9 v0 rfl rfl) h0
  obtain ⟨a1, rfl, rfl, rfl, w1⟩ := open_int Try.underlying3 (hval 1 3 v1 rfl rfl) h1
  have hk : Rows.uptoBulkAll _ ≤ 1048576 := of_decide_eq_true hk0
  simp only [List.cons_append, List.nil_append, List.append_nil, Rows.uptoBulkAll, Rows.uptoBulk, Array.length_toList] at hk
  clear hA0 hval0
  refine (walk a0 a1 W (by have e : a0.data.size = a0.size := rfl; omega)).mono fun e W' ⟨he, bel⟩ => ?_
  subst he
  exact ⟨_, rfl, _, _, _, [], _, [], hW', trodAll_mk1 (shut_bool Try.underlying4 _), (trodAll_cons_mk (shut_string Try.underlying9 w0) (trodAll_cons_mk (shut_int Try.underlying3 w1) trodAll_mk0)), rfl, bel.frame _, fun h => by cases h⟩

theorem over : Rows.lexTokensUptoRow.holds Try.pinned (Rows.OpenSpec.upto Rows.lexTokensSpec) :=
  OpenClaim.holds_of_cond 3 Try.f3 rfl rfl rfl rfl rfl rfl rfl ⟨rfl, rfl, rfl, rfl, rfl⟩ rfl rfl rfl rfl rfl (by kernel_rfl) Try.func3 (by kernel_rfl)
    (of_decide_eq_true (by kernel_rfl)) (by unfold Func.isWrapper; first | (rw [if_pos (by decide +kernel)]; kernel_rfl) | (rw [if_neg (by decide +kernel)]; exact ⟨rfl, rfl⟩))
    (fun os started H enc _ F => lifted os started H enc F)

theorem proved : Rows.LexTokensUptoSaid := over
#print axioms proved
end Go.Proofs.Ytpfeeoogjeobdaa.lexTokens
