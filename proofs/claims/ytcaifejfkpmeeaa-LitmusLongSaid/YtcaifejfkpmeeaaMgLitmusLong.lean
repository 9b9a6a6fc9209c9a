/- Texts that are too long, or have bytes that may not be, are refused by litmus.Parse ahead of all else, as the document says: for every string. -/
import Derived.Test.YtcaifejfkpmeeaaMgaa
import Derived.Test.YtcaifejfkpmeeaaMgak
import Derived.Test.YtcaifejfkpmeeaaMgbf
import Derived.Test.YtcaifejfkpmeeaaRows
import Derived.ShutString
import Derived.ChangeOld
import Derived.Lib.SmallJoins
namespace Go.Proofs.Ytcaifejfkpmeeaa.litmusLong
open Go.ChangeShapes Go.WideShapes Go.ChangeAt Go.RowKit
open Go.ChangeMaps (open_string shut_string)
set_option linter.unusedVariables false
set_option linter.unusedSimpArgs false

theorem own : ownKnob Try.prog.godebug = none := by kernel_rfl
theorem laidOut : laidOutB Try.prog = true := by kernel_rfl

theorem long_post {s : ByteArray} (hc : ¬ (checkZ s).1 = 0) {w w1 : World} {e : Ending} (h : LitPost s w e w1) : ∃ cs, e = .returned (.tuple #[.agg cs, .agg #[.int .i64 (checkZ s).1, .int .i64 (checkZ s).2]]) ∧ cs.size = 16 ∧ cs.all (·.oneCell') = true ∧ cs[0]? = some (.string ⟨#[]⟩) ∧ (∃ p c, cs[2]? = some (.slice p 0 c)) ∧ Below w.heap.size w w1 := by
  have hX : litA s = (src0, checkZ s) := by unfold litA; rw [if_neg hc]
  unfold LitPost at h
  rw [hX] at h
  obtain ⟨f', v, rfl, hP, hs, hB⟩ := h
  obtain ⟨p, c, hv, _⟩ := own_form hP.cores.1
  exact ⟨_, rfl, rfl, all_oneCell_toArray (src_one hP), rfl, ⟨p, c, by rw [show (0 : Nat) = src0.cores.length from rfl, ← hv]; rfl⟩, hB⟩
set_option maxRecDepth 100000 in
set_option maxHeartbeats 3200000 in
theorem walk (a0 : ByteArray) (w : World) (w0 : a0.size ≤ maxLen) :
    Calls Try.prog 3 #[.string a0] w fun e w' => e = .returned (.bool true) ∧ Below w.heap.size w w' := by
  have HRC := Lib.hid (fun w1 => rcheck_any a0 w1 w0)
  have HPA := Lib.hid (fun (hc : ¬ (checkZ a0).1 = 0) (w1 : World) => (lparse_any a0 w1 w0).mono fun e w2 h => long_post hc h)
  go_enter Try.func3, Try.ntmps3
  go_wp2_with fail
  refine (awake_any _).mono ?_
  rintro e w1 ⟨rfl, hb1⟩
  have HB := Lib.hid hb1
  clear hb1
  generalize checkZ a0 = q at *
  obtain ⟨ca, cb⟩ := q
  simp only at HRC HPA
  by_cases hc : ca = 0
  · subst hc
    go_wp2_with (go_at_call 5; refine (HRC.out _).mono ?_; rintro e w' ⟨rfl, rfl⟩)
    go_ret
    exact ⟨rfl, HB.out⟩
  · have hcb : (ca == 0) = false := beq_eq_false_iff_ne.2 hc
    go_wp2_with (go_at_call 5; refine (HRC.out _).mono ?_; rintro e w' ⟨rfl, rfl⟩)
    refine (HPA.out hc _).mono ?_
    rintro e w2 ⟨cs, rfl, hsz, hone, h0, ⟨p2, c2, h2⟩, hb⟩
    clear hc HRC HPA
    obtain ⟨S1, S2, S3⟩ := stored2 w2 (.cells #[.string ⟨#[]⟩, .slice none 0 0, .slice none 0 0, .bool false, .int .i64 0, .int .i64 0, .int .i64 0, .int .u64 0, .int .u64 0, .slice none 0 0, .slice none 0 0, .slice none 0 0, .slice none 0 0, .slice none 0 0, .slice none 0 0, .int .i64 0] 39) (.cells #[.int .i64 0, .int .i64 0] 42) 39 42 _ _ cs #[.int .i64 ca, .int .i64 cb] rfl rfl
    have HSZ := Lib.hid hsz
    have HON := Lib.hid hone
    have HBW := Lib.hid (below_trans (below_trans HB.out hb) S3)
    have d0 := S1.cell 0
    have d2 := S1.cell 2
    have p0 := S2.cell 0
    have p1 := S2.cell 1
    have l1 := S1.lt
    have l2 := S2.lt
    have hi39 := Lib.hid (show (Try.prog.info? 39).map (·.size) = some cs.size by rw [hsz]; kernel_rfl)
    simp only [Array.getElem?_toList, h0, h2] at d0 d2
    simp only [List.getElem?_cons_zero, List.getElem?_cons_succ] at p0 p1
    clear hsz hone h0 h2 hb S1 S2 S3 HB
    go_wp2_with (first | (refine wpList_store_row rfl 39 (.tmp 5) (.tmp 19) rfl w2.heap.size cs rfl rfl 39 _ (heap_alloc2_old w2 _ _) hi39.out (by rw [HSZ.out]; rfl) HON.out ?_) | (refine wpList_store_row rfl 42 (.tmp 6) (.tmp 20) rfl (w2.heap.size + 1) #[.int .i64 ca, .int .i64 cb] rfl rfl 42 _ ((setRow_other _ _ _ _ (by omega)).trans (heap_alloc2_new w2 _ _)) (by kernel_rfl) rfl (by kernel_rfl) ?_; generalize ((((w2.alloc (.cells #[.string ⟨#[]⟩, .slice none 0 0, .slice none 0 0, .bool false, .int .i64 0, .int .i64 0, .int .i64 0, .int .u64 0, .int .u64 0, .slice none 0 0, .slice none 0 0, .slice none 0 0, .slice none 0 0, .slice none 0 0, .slice none 0 0, .int .i64 0] 39)).alloc (.cells #[.int .i64 0, .int .i64 0] 42)).setRow w2.heap.size cs).setRow (w2.heap.size + 1) #[.int .i64 ca, .int .i64 cb]) = w3 at *; generalize w2.heap.size = h0 at *))
    go_ret
    exact ⟨rfl, HBW.out⟩

set_option maxRecDepth 100000 in
theorem lifted (os : Os) (started : os.Started) (H : Type) (enc : TypeId × Value → H) :
    ReturnsInHanded {} Try.checked os 3 .any (Rows.litmusLongSpec.pre6 enc Try.prog Try.f3 Rows.litmusLongRow.domain false) (Rows.litmusLongSpec.post enc Try.prog Try.f3 false true false false) := by
  refine returnsInHanded_of_change (C := Try.checked) own started (by kernel_rfl) Try.func3
    (ChangeSpec.witness6 (enc := enc) (C := Try.checked) false ⟨#[], #[.string ByteArray.empty], []⟩ 8 (by kernel_rfl) (by kernel_rfl) (by kernel_rfl) (by kernel_rfl)) ?_
  intro W base args ds gs before hval0 hW hcnd _
  have hval : ∀ (j : Nat) t v, Try.f3.params[j]? = some t → args[j]? = some v → Value.okWide Try.prog W .any base t v := hval0
  have hW' := hW
  obtain ⟨p, q, hA0, hV, rfl, hfz, hnd⟩ := hW
  have hA : DataW.TrodAll enc Try.prog W 0 (fun _ => true) true Try.f3.params.toList args.toList ds p := hA0
  rw [Try.params3] at hA hval
  obtain ⟨v0, vs0, d0, ds0, p0, q0, hargs, rfl, rfl, h0, r0⟩ := trodAll_cons hA
  obtain ⟨rfl, rfl, rfl⟩ := trodAll_nil r0
  obtain rfl : args = #[v0] := by cases args; simp_all
  obtain ⟨rfl, rfl⟩ := trodVars_none hV
  obtain ⟨a0, rfl, rfl, rfl, w0⟩ := open_string Try.underlying9 (hval 0 9 v0 rfl rfl) h0
  clear hA0 hval0
  refine (walk a0 W w0).mono fun e W' ⟨he, bel⟩ => ?_
  subst he
  exact ⟨_, rfl, _, _, _, [], _, [], hW', trodAll_mk1 (shut_bool Try.underlying4 _), (trodAll_cons_mk (shut_string Try.underlying9 w0) trodAll_mk0), rfl, bel.frame _, fun h => by cases h⟩

theorem over : Rows.litmusLongRow.holds Try.pinned (OpenSpec.ofChange Rows.litmusLongSpec) :=
  OpenClaim.holds_of_wide 3 Try.f3 rfl rfl rfl rfl rfl rfl rfl ⟨rfl, rfl, rfl, rfl, rfl⟩ rfl rfl rfl rfl rfl (by kernel_rfl) Try.func3 (by kernel_rfl)
    (of_decide_eq_true (by kernel_rfl)) (by unfold Func.isWrapper; first | (rw [if_pos (by decide +kernel)]; kernel_rfl) | (rw [if_neg (by decide +kernel)]; exact ⟨rfl, rfl⟩))
    (fun os started H enc _ => lifted os started H enc)

theorem proved : Rows.LitmusLongSaid := over
#print axioms proved
end Go.Proofs.Ytcaifejfkpmeeaa.litmusLong
