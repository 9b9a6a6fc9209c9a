/- A text that is read as a test is refused by litmus.Parse at its end, if it is cut ahead of its condition: for every string. -/
import Derived.Test.YtcaifejfkpmeeaaGreatMgaa
import Derived.Test.YtcaifejfkpmeeaaGreatMgbf
import Derived.Test.YtcaifejfkpmeeaaGreatMgbh
import Derived.Test.YtcaifejfkpmeeaaGreatMgbi
import Derived.Test.YtcaifejfkpmeeaaGreatRows
import Derived.ShutString
import Derived.ChangeOld
import Derived.Lib.SmallJoins
namespace Go.Proofs.YtcaifejfkpmeeaaGreat.litmusPrefix
open Go.ChangeShapes Go.WideShapes Go.ChangeAt Go.RowKit
open Go.ChangeMaps (open_string shut_string)
set_option linter.unusedVariables false
set_option linter.unusedSimpArgs false

theorem own : ownKnob Tryz.prog.godebug = none := by kernel_rfl
theorem laidOut : laidOutB Tryz.prog = true := by kernel_rfl

theorem lsmall_any (a0 : ByteArray) (w : World) (w0 : a0.size ≤ maxLen) :
    Calls Tryz.prog 6 #[.string a0] w fun e w' => ∃ b, e = .returned (.bool b) ∧ (b = true → a0.size ≤ 1500) ∧ Below w.heap.size w w' := by
  by_cases hs : a0.size ≤ 1500
  · have HR := Lib.hid (rrows_any a0 w (by omega) (by omega))
    have hsb : decide ((a0.size : Int) ≤ 1500) = true := decide_eq_true (by omega)
    have HS := Lib.hid hs
    clear hs w0
    go_enter Tryz.func6, Tryz.ntmps6
    go_wp2_with fail
    refine (HR.out).mono ?_
    rintro e w2 ⟨v, rfl, ho, hb⟩
    obtain ⟨p, c, rfl, _⟩ := own_form ho
    have HB := Lib.hid hb
    clear ho hb HR
    go_wp2_with fail
    go_ret
    exact ⟨_, rfl, fun _ => HS.out, HB.out⟩
  · have hsb : decide ((a0.size : Int) ≤ 1500) = false := decide_eq_false (by omega)
    clear hs w0
    go_enter Tryz.func6, Tryz.ntmps6
    go_wp2_with fail
    go_ret
    exact ⟨_, rfl, fun h => by simp at h, Below.refl _ _⟩

/-- What is asked of a source that was read. -/
theorem read_post {s : ByteArray} {w w1 : World} {e : Ending} (h : LitPost s w e w1) : ∃ f' v, e = .returned (.tuple #[.agg (srcC (litA s).1 v).toArray, .agg #[.int .i64 (litA s).2.1, .int .i64 (litA s).2.2]]) ∧ (srcC (litA s).1 v).toArray.all (·.oneCell') = true ∧ Parts w1 f' w.heap.size (litA s).1 v ∧ Sizes (litA s).1 20000 ∧ Below w.heap.size w w1 := by
  obtain ⟨f', v, rfl, hP, hs, hB⟩ := h
  exact ⟨f', v, rfl, all_oneCell_toArray (src_one hP), hP, hs, hB⟩

set_option maxRecDepth 100000 in
set_option maxHeartbeats 3200000 in
theorem walk (a0 : ByteArray) (w : World) (w0 : a0.size ≤ maxLen) :
    Calls Tryz.prog 4 #[.string a0] w fun e w' => e = .returned (.bool true) ∧ Below w.heap.size w w' := by
  have HSM := Lib.hid (fun w1 => lsmall_any a0 w1 w0)
  have HPA := Lib.hid (fun (w1 : World) => (lparse_any a0 w1 w0).mono fun e w2 h => read_post h)
  have HPF := Lib.hid (fun (h : (litA a0).2.1 = 0) => lit_prefix h)
  go_enter Tryz.func4, Tryz.ntmps4
  go_wp2_with fail
  refine (awake_any _).mono ?_
  rintro e w1 ⟨rfl, hb1⟩
  have HB := Lib.hid hb1
  clear hb1
  go_wp2_with fail
  refine (HSM.out _).mono ?_
  rintro e w2 ⟨b, rfl, hbs, hb⟩
  have HB2 := Lib.hid (below_trans HB.out hb)
  clear HB hb HSM
  cases b with
  | false =>
    go_wp2_with fail
    go_ret
    exact ⟨rfl, HB2.out⟩
  | true =>
    have HSZ := Lib.hid (hbs rfl)
    clear hbs
    go_wp2_with fail
    refine (HPA.out _).mono ?_
    rintro e w3 ⟨f', v, rfl, hone, hP, _, hb⟩
    generalize litA a0 = y at *
    obtain ⟨x, ca, cb⟩ := y
    simp only at HPF hone
    have HON := Lib.hid hone
    have HB3 := Lib.hid (below_trans HB2.out hb)
    obtain ⟨S1, S2, S3⟩ := stored2 w3 (.cells #[.string ⟨#[]⟩, .slice none 0 0, .slice none 0 0, .bool false, .int .i64 0, .int .i64 0, .int .i64 0, .int .u64 0, .int .u64 0, .slice none 0 0, .slice none 0 0, .slice none 0 0, .slice none 0 0, .slice none 0 0, .slice none 0 0, .int .i64 0] 38) (.cells #[.int .i64 0, .int .i64 0] 41) 38 41 _ _ (srcC x v).toArray #[.int .i64 ca, .int .i64 cb] rfl rfl
    have HB4 := Lib.hid (below_trans HB3.out S3)
    have d15 : (((((w3.alloc (.cells #[.string ⟨#[]⟩, .slice none 0 0, .slice none 0 0, .bool false, .int .i64 0, .int .i64 0, .int .i64 0, .int .u64 0, .int .u64 0, .slice none 0 0, .slice none 0 0, .slice none 0 0, .slice none 0 0, .slice none 0 0, .slice none 0 0, .int .i64 0] 38)).alloc (.cells #[.int .i64 0, .int .i64 0] 41)).setRow w3.heap.size (srcC x v).toArray).setRow (w3.heap.size + 1) #[.int .i64 (ca), .int .i64 (cb)])).cell? ⟨w3.heap.size, 15, none⟩ = some (.int .i64 x.pCond) := S1.cell 15
    have p0 := S2.cell 0
    have p1 := S2.cell 1
    have l1 := S1.lt
    have l2 := S2.lt
    have hi39 := Lib.hid (show (Tryz.prog.info? 38).map (·.size) = some (srcC x v).toArray.size by kernel_rfl)
    have hsz := Lib.hid (show (srcC x v).toArray.size = 16 from rfl)
    simp only [List.getElem?_cons_zero, List.getElem?_cons_succ] at p0 p1
    clear hone hb hP S1 S2 S3 HB2 HB3
    by_cases hc : ca = 0
    · subst hc
      obtain ⟨m, hpc, hm, hlit⟩ := HPF.out rfl
      rw [hpc] at d15
      have hm0 : ¬ ((m : Nat) : Int) < 0 := by omega
      have hmz : ¬ ((a0.size : Nat) : Int) < ((m : Nat) : Int) := by omega
      have HLI := Lib.hid hlit
      have hszm : (a0.extract 0 m).size = m := by simp; omega
      have HPB := Lib.hid (fun (w1 : World) => (lparse_any (a0.extract 0 m) w1 (by rw [hszm]; omega)).mono fun e w2 h => read_post h)
      clear hlit hpc HPF HPA
      go_wp2_with (first | (refine wpList_store_row rfl 38 (.tmp 3) (.tmp 16) rfl w3.heap.size (srcC x v).toArray rfl rfl 38 _ (heap_alloc2_old w3 _ _) hi39.out (by rw [hsz.out]; rfl) HON.out ?_) | (refine wpList_store_row rfl 41 (.tmp 4) (.tmp 17) rfl (w3.heap.size + 1) #[.int .i64 (0), .int .i64 (cb)] rfl rfl 41 _ ((setRow_other _ _ _ _ (by omega)).trans (heap_alloc2_new w3 _ _)) (by kernel_rfl) rfl (by kernel_rfl) ?_; generalize ((((w3.alloc (.cells #[.string ⟨#[]⟩, .slice none 0 0, .slice none 0 0, .bool false, .int .i64 0, .int .i64 0, .int .i64 0, .int .u64 0, .int .u64 0, .slice none 0 0, .slice none 0 0, .slice none 0 0, .slice none 0 0, .slice none 0 0, .slice none 0 0, .int .i64 0] 38)).alloc (.cells #[.int .i64 0, .int .i64 0] 41)).setRow w3.heap.size (srcC x v).toArray).setRow (w3.heap.size + 1) #[.int .i64 (0), .int .i64 (cb)]) = w4 at *))
      refine (HPB.out _).mono ?_
      rintro e w5 ⟨f5, v5, rfl, hone5, _, _, hb5⟩
      rw [HLI.out] at hone5 ⊢
      have HON5 := Lib.hid hone5
      have HB5 := Lib.hid (below_trans HB4.out hb5)
      obtain ⟨S4, S5, S6⟩ := stored2 w5 (.cells #[.string ⟨#[]⟩, .slice none 0 0, .slice none 0 0, .bool false, .int .i64 0, .int .i64 0, .int .i64 0, .int .u64 0, .int .u64 0, .slice none 0 0, .slice none 0 0, .slice none 0 0, .slice none 0 0, .slice none 0 0, .slice none 0 0, .int .i64 0] 38) (.cells #[.int .i64 0, .int .i64 0] 41) 38 41 _ _ (srcC src0 v5).toArray #[.int .i64 110, .int .i64 (m : Nat)] rfl rfl
      have HB6 := Lib.hid (below_trans HB5.out S6)
      have q0 := S5.cell 0
      have q1 := S5.cell 1
      have l4 := S5.lt
      have hi39b := Lib.hid (show (Tryz.prog.info? 38).map (·.size) = some (srcC src0 v5).toArray.size by kernel_rfl)
      have hszb := Lib.hid (show (srcC src0 v5).toArray.size = 16 from rfl)
      simp only [List.getElem?_cons_zero, List.getElem?_cons_succ] at q0 q1
      clear hone5 hb5 S4 S5 S6 HPB HLI d15 p0 p1
      go_wp2_with (first | (refine wpList_store_row rfl 38 (.tmp 6) (.tmp 41) rfl w5.heap.size (srcC src0 v5).toArray rfl rfl 38 _ (heap_alloc2_old w5 _ _) hi39b.out (by rw [hszb.out]; rfl) HON5.out ?_) | (refine wpList_store_row rfl 41 (.tmp 7) (.tmp 42) rfl (w5.heap.size + 1) #[.int .i64 (110), .int .i64 ((m : Nat))] rfl rfl 41 _ ((setRow_other _ _ _ _ (by omega)).trans (heap_alloc2_new w5 _ _)) (by kernel_rfl) rfl (by kernel_rfl) ?_; generalize ((((w5.alloc (.cells #[.string ⟨#[]⟩, .slice none 0 0, .slice none 0 0, .bool false, .int .i64 0, .int .i64 0, .int .i64 0, .int .u64 0, .int .u64 0, .slice none 0 0, .slice none 0 0, .slice none 0 0, .slice none 0 0, .slice none 0 0, .slice none 0 0, .int .i64 0] 38)).alloc (.cells #[.int .i64 0, .int .i64 0] 41)).setRow w5.heap.size (srcC src0 v5).toArray).setRow (w5.heap.size + 1) #[.int .i64 (110), .int .i64 ((m : Nat))]) = w6 at *))
      go_ret
      exact ⟨rfl, HB6.out⟩
    · have hcb : (ca != 0) = true := bne_iff_ne.2 hc
      clear hc HPF HPA
      go_wp2_with (first | (refine wpList_store_row rfl 38 (.tmp 3) (.tmp 16) rfl w3.heap.size (srcC x v).toArray rfl rfl 38 _ (heap_alloc2_old w3 _ _) hi39.out (by rw [hsz.out]; rfl) HON.out ?_) | (refine wpList_store_row rfl 41 (.tmp 4) (.tmp 17) rfl (w3.heap.size + 1) #[.int .i64 (ca), .int .i64 (cb)] rfl rfl 41 _ ((setRow_other _ _ _ _ (by omega)).trans (heap_alloc2_new w3 _ _)) (by kernel_rfl) rfl (by kernel_rfl) ?_; generalize ((((w3.alloc (.cells #[.string ⟨#[]⟩, .slice none 0 0, .slice none 0 0, .bool false, .int .i64 0, .int .i64 0, .int .i64 0, .int .u64 0, .int .u64 0, .slice none 0 0, .slice none 0 0, .slice none 0 0, .slice none 0 0, .slice none 0 0, .slice none 0 0, .int .i64 0] 38)).alloc (.cells #[.int .i64 0, .int .i64 0] 41)).setRow w3.heap.size (srcC x v).toArray).setRow (w3.heap.size + 1) #[.int .i64 (ca), .int .i64 (cb)]) = w4 at *))
      go_ret
      exact ⟨rfl, HB4.out⟩

set_option maxRecDepth 100000 in
theorem lifted (os : Os) (started : os.Started) (H : Type) (enc : TypeId × Value → H) :
    ReturnsInHanded {} Tryz.checked os 4 .any (Rows.litmusPrefixSpec.pre6 enc Tryz.prog Tryz.f4 Rows.litmusPrefixRow.domain false) (Rows.litmusPrefixSpec.post enc Tryz.prog Tryz.f4 false true false false) := by
  refine returnsInHanded_of_change (C := Tryz.checked) own started (by kernel_rfl) Tryz.func4
    (ChangeSpec.witness6 (enc := enc) (C := Tryz.checked) false ⟨#[], #[.string ByteArray.empty], []⟩ 8 (by kernel_rfl) (by kernel_rfl) (by kernel_rfl) (by kernel_rfl)) ?_
  intro W base args ds gs before hval0 hW hcnd _
  have hval : ∀ (j : Nat) t v, Tryz.f4.params[j]? = some t → args[j]? = some v → Value.okWide Tryz.prog W .any base t v := hval0
  have hW' := hW
  obtain ⟨p, q, hA0, hV, rfl, hfz, hnd⟩ := hW
  have hA : DataW.TrodAll enc Tryz.prog W 0 (fun _ => true) true Tryz.f4.params.toList args.toList ds p := hA0
  rw [Tryz.params4] at hA hval
  obtain ⟨v0, vs0, d0, ds0, p0, q0, hargs, rfl, rfl, h0, r0⟩ := trodAll_cons hA
  obtain ⟨rfl, rfl, rfl⟩ := trodAll_nil r0
  obtain rfl : args = #[v0] := by cases args; simp_all
  obtain ⟨rfl, rfl⟩ := trodVars_none hV
  obtain ⟨a0, rfl, rfl, rfl, w0⟩ := open_string Tryz.underlying9 (hval 0 9 v0 rfl rfl) h0
  clear hA0 hval0
  refine (walk a0 W w0).mono fun e W' ⟨he, bel⟩ => ?_
  subst he
  exact ⟨_, rfl, _, _, _, [], _, [], hW', trodAll_mk1 (shut_bool Tryz.underlying4 _), (trodAll_cons_mk (shut_string Tryz.underlying9 w0) trodAll_mk0), rfl, bel.frame _, fun h => by cases h⟩

theorem over : Rows.litmusPrefixRow.holds Tryz.pinned (OpenSpec.ofChange Rows.litmusPrefixSpec) :=
  OpenClaim.holds_of_wide 4 Tryz.f4 rfl rfl rfl rfl rfl rfl rfl ⟨rfl, rfl, rfl, rfl, rfl⟩ rfl rfl rfl rfl rfl (by kernel_rfl) Tryz.func4 (by kernel_rfl)
    (of_decide_eq_true (by kernel_rfl)) (by unfold Func.isWrapper; first | (rw [if_pos (by decide +kernel)]; kernel_rfl) | (rw [if_neg (by decide +kernel)]; exact ⟨rfl, rfl⟩))
    (fun os started H enc _ => lifted os started H enc)

theorem proved : Rows.LitmusPrefixSaid := over
#print axioms proved
end Go.Proofs.YtcaifejfkpmeeaaGreat.litmusPrefix
