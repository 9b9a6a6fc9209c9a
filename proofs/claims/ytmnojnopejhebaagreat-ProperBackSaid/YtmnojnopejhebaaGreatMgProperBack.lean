/- A test that is read and may be is printed as a text that is read as the same test, whose text is the same: for every string. -/
import Derived.Test.YtmnojnopejhebaaGreatMgaa
import Derived.Test.YtmnojnopejhebaaGreatMgbi
import Derived.Test.YtmnojnopejhebaaGreatRows
import Derived.ShutString
import Derived.ChangeOld
import Derived.Lib.SmallJoins
namespace Go.Proofs.YtmnojnopejhebaaGreat.properBack
open Go.ChangeShapes Go.WideShapes Go.ChangeAt Go.RowKit
open Go.ChangeMaps (open_string shut_string)
set_option maxRecDepth 100000
set_option maxHeartbeats 25600000
set_option linter.unusedVariables false
set_option linter.unusedSimpArgs false
theorem own : ownKnob Tryz.prog.godebug = none := by kernel_rfl
theorem laidOut : laidOutB Tryz.prog = true := by kernel_rfl
theorem psmall_any (a0 : ByteArray) (w : World) (w0 : a0.size ≤ maxLen) :
  Calls Tryz.prog 8 #[.string a0] w fun e w' => ∃ b, e = .returned (.bool b) ∧ (b = true → (rowsF a0 0 []).length ≤ 60) ∧ Below w.heap.size w w' := by
 by_cases hs : a0.size ≤ 1500
 ·have HR := h_ (rrows_any a0 w (by omega) (by omega))
  have hsb : decide ((a0.size : Int) ≤ 1500) = true := decide_eq_true (by omega)
  clear hs w0
  go_enter Tryz.func8, Tryz.ntmps8
  go_wp2_with fail
  refine (HR.out).mono ?_
  rintro e w2 ⟨v, rfl, ho, hb⟩
  obtain ⟨p, c, rfl, _⟩ := own_form ho
  have HB := h_ hb
  have HL := h_ (show decide (((rowsF a0 0 []).length : Int) ≤ 60) = true → (rowsF a0 0 []).length ≤ 60 from fun h => by have := of_decide_eq_true h; omega)
  clear ho hb HR
  go_wp2_with fail
  go_ret
  exact ⟨_, rfl, HL.out, HB.out⟩
 ·have hsb : decide ((a0.size : Int) ≤ 1500) = false := decide_eq_false (by omega)
  clear hs w0
  go_enter Tryz.func8, Tryz.ntmps8
  go_wp2_with fail
  go_ret
  exact ⟨_, rfl, fun h => by simp at h, Below.refl _ _⟩
theorem testok_nx {x y : SrcA} (h : TestOK x) (e : nx x = nx y) : TestOK y :=
 ⟨by rw [← nx_name e]; exact h.name, by rw [← nx_tables e]; exact h.tables, by rw [← nx_cells e]; exact h.cells, by rw [← nx_cores e]; exact h.len, by rw [← nx_cores e]; exact h.cores, by rw [← nx_cond e]; exact h.cond, by rw [← nx_cond e]; exact h.count⟩
theorem walk (a0 : ByteArray) (w : World) (w0 : a0.size ≤ maxLen) :
  Calls Tryz.prog 3 #[.string a0] w fun e w' => e = .returned (.bool true) ∧ Below w.heap.size w w' := by
 have HSM := h_ (fun w1 => psmall_any a0 w1 w0)
 have HR1 := h_ (fun (w1 : World) => show Calls Tryz.prog 9 #[.string a0] w1 (fun e w' => ∃ v', e = .returned (.tuple #[.agg (srcC (readA a0).1 v').toArray, .agg #[.int .i64 (readA a0).2.1, .int .i64 (readA a0).2.2]]) ∧ (srcC (readA a0).1 v').toArray.all (·.oneCell') = true ∧ GRd w' (gsrc (readA a0).1) v' ∧ TestRd w' (readA a0).1 v' ∧ Below w1.heap.size w1 w') from pread_any a0 w1 w0)
 have HPB := h_ (fun (h : (readA a0).2.1 = 0) (hr : (rowsF a0 0 []).length ≤ 60) => pro_back h hr)
 go_enter Tryz.func3, Tryz.ntmps3
 go_wp2_with fail
 refine (pawake_any _).mono ?_
 rintro e wa ⟨rfl, hb1⟩
 have HBa := h_ hb1
 clear hb1
 go_wp2_with fail
 refine (HSM.out _).mono ?_
 rintro e wb ⟨b, rfl, hbs, hb⟩
 have HB0 := h_ (bt_ HBa.out hb)
 clear HBa hb HSM
 cases b with
 | false =>
  go_wp2_with fail
  go_ret
  exact ⟨rfl, HB0.out⟩
 | true =>
  have HSZ := h_ (hbs rfl)
  clear hbs
  go_wp2_with fail
  refine (HR1.out _).mono ?_
  rintro e w1 ⟨v1, rfl, hone, hG, hT, hb⟩
  generalize readA a0 = y at *
  obtain ⟨x, ca, cb⟩ := y
  dsimp only at HPB hone hG hT ⊢
  by_cases hc : ca = 0
  ·subst hc
   have HON1 := h_ hone
   obtain ⟨S1, S2, S3⟩ := stored2 w1 (.cells #[.string ⟨#[]⟩, .slice none 0 0, .slice none 0 0, .bool false, .int .i64 0, .int .i64 0, .int .i64 0, .int .u64 0, .int .u64 0, .slice none 0 0, .slice none 0 0, .slice none 0 0, .slice none 0 0, .slice none 0 0, .slice none 0 0, .int .i64 0] 38) (.cells #[.int .i64 0, .int .i64 0] 41) 38 41 _ _ (srcC x v1).toArray #[.int .i64 (0), .int .i64 (cb)] rfl rfl
   have HB1 := h_ (bt_ (bt_ HB0.out hb) S3)
   have HG1 := h_ (hG.below S3)
   have HT1 := h_ (hT.below S3)
   have HS1 := h_ S1
   have HP1 := h_ S2
   have l1a := S1.lt
   have l1b := S2.lt
   have hi1 := h_ (show (Tryz.prog.info? 38).map (·.size) = some (srcC x v1).toArray.size by kernel_rfl)
   have hz1 := h_ (show (srcC x v1).toArray.size = 16 from rfl)
   clear hone hG hT hb S1 S2 S3 HB0 
   obtain ⟨d0, d1, d2, d3, d4, d5, d6, d7, d8, d9, d10, d11, d12, d13, d14, d15⟩ := src16 HS1.out
   have p0 : ((((w1.alloc (.cells #[.string ⟨#[]⟩, .slice none 0 0, .slice none 0 0, .bool false, .int .i64 0, .int .i64 0, .int .i64 0, .int .u64 0, .int .u64 0, .slice none 0 0, .slice none 0 0, .slice none 0 0, .slice none 0 0, .slice none 0 0, .slice none 0 0, .int .i64 0] 38)).alloc (.cells #[.int .i64 0, .int .i64 0] 41)).setRow w1.heap.size (srcC x v1).toArray).setRow (w1.heap.size + 1) #[.int .i64 (0), .int .i64 (cb)]).cell? ⟨w1.heap.size + 1, 0, none⟩ = some (.int .i64 0) := HP1.out.cell 0
   obtain ⟨hok, hlen, y, hy, hnx⟩ := HPB.out (by trivial) HSZ.out
   have HOK := h_ hok
   have HLEN := h_ hlen
   have HR2 := h_ (fun (w1 : World) => show Calls Tryz.prog 9 #[.string (ba (textS x))] w1 (fun e w' => ∃ v', e = .returned (.tuple #[.agg (srcC y v').toArray, .agg #[.int .i64 0, .int .i64 0]]) ∧ (srcC y v').toArray.all (·.oneCell') = true ∧ GRd w' (gsrc y) v' ∧ TestRd w' y v' ∧ Below w1.heap.size w1 w') from by
    have q := pread_any (ba (textS x)) w1 (by have e : (ba (textS x)).size = (textS x).length := by rw [Lib.size_eq]; rfl
                                              rw [e]; unfold maxLen; omega)
    unfold ReadPost at q; rw [hy] at q; exact q)
   have HNX := h_ hnx
   have HNT := h_ (show x.tables.length ≤ maxLen by have := HT1.out.sizes.tables; unfold maxLen; omega)
   have HPR := h_ (fun (w1 : World) (v : SrcV) (h : GRd w1 (gsrc x) v) => show Calls Tryz.prog 10 #[.agg [.string x.name, v.vC, v.vCo, .bool x.fa, v.k0, v.k1, v.k2, v.k3, v.k4, v.k5, v.vT, v.vPT, v.vPC, v.vPCo, v.vPI, .int .i64 x.pCond].toArray] w1 (fun e w' => e = .returned (.string (ba (textS x))) ∧ Below w1.heap.size w1 w') from pprint_any w1 h HOK.out HLEN.out)
   have HPR2 := h_ (fun (w1 : World) (v : SrcV) (h : GRd w1 (gsrc y) v) => show Calls Tryz.prog 10 #[.agg [.string y.name, v.vC, v.vCo, .bool y.fa, v.k0, v.k1, v.k2, v.k3, v.k4, v.k5, v.vT, v.vPT, v.vPC, v.vPCo, v.vPI, .int .i64 y.pCond].toArray] w1 (fun e w' => e = .returned (.string (ba (textS x))) ∧ Below w1.heap.size w1 w') from by
    have q := pprint_any w1 h (testok_nx HOK.out HNX.out) (by rw [← textS_nx HNX.out]; exact HLEN.out)
    rw [← textS_nx HNX.out] at q; exact q)
   dsimp only [List.toArray] at HPR HPR2
   clear hok hlen hy hnx HPB
   go_wp2_with (first | (refine wpList_store_row rfl 38 (.tmp 3) (.tmp 16) rfl w1.heap.size (srcC x v1).toArray rfl rfl 38 _ (heap_alloc2_old w1 _ _) hi1.out (by rw [hz1.out]; rfl) HON1.out ?_) | (refine wpList_store_row rfl 41 (.tmp 4) (.tmp 17) rfl (w1.heap.size + 1) #[.int .i64 (0), .int .i64 (cb)] rfl rfl 41 _ ((setRow_other _ _ _ _ (by omega)).trans (heap_alloc2_new w1 _ _)) (by kernel_rfl) rfl (by kernel_rfl) ?_; generalize ((((w1.alloc (.cells #[.string ⟨#[]⟩, .slice none 0 0, .slice none 0 0, .bool false, .int .i64 0, .int .i64 0, .int .i64 0, .int .u64 0, .int .u64 0, .slice none 0 0, .slice none 0 0, .slice none 0 0, .slice none 0 0, .slice none 0 0, .slice none 0 0, .int .i64 0] 38)).alloc (.cells #[.int .i64 0, .int .i64 0] 41)).setRow w1.heap.size (srcC x v1).toArray).setRow (w1.heap.size + 1) #[.int .i64 (0), .int .i64 (cb)]) = u1 at *; generalize w1.heap.size = g1 at *))
   refine (HPR.out u1 v1 HG1.out).mono ?_
   rintro e w3 ⟨rfl, hb⟩
   have HB3 := h_ (bt_ HB1.out hb)
   have HG3 := h_ (HG1.out.below hb)
   have HT3 := h_ (HT1.out.below hb)
   have HS3 := h_ (HS1.out.below hb)
   clear hb p0 l1a l1b d0 d1 d2 d3 d4 d5 d6 d7 d8 d9 d10 d11 d12 d13 d14 d15
   generalize textS x = T at *
   go_wp2_with fail
   refine (HR2.out _).mono ?_
   rintro e w2 ⟨v2, rfl, hone, hG, hT, hb⟩
   have HON2 := h_ hone
   obtain ⟨S1, S2, S3⟩ := stored2 w2 (.cells #[.string ⟨#[]⟩, .slice none 0 0, .slice none 0 0, .bool false, .int .i64 0, .int .i64 0, .int .i64 0, .int .u64 0, .int .u64 0, .slice none 0 0, .slice none 0 0, .slice none 0 0, .slice none 0 0, .slice none 0 0, .slice none 0 0, .int .i64 0] 38) (.cells #[.int .i64 0, .int .i64 0] 41) 38 41 _ _ (srcC y v2).toArray #[.int .i64 (0), .int .i64 (0)] rfl rfl
   have HB2 := h_ (bt_ (bt_ HB3.out hb) S3)
   have HG2 := h_ (hG.below S3)
   have HT2 := h_ (hT.below S3)
   have HG3' := h_ ((HG3.out.below hb).below S3)
   have HT3' := h_ ((HT3.out.below hb).below S3)
   have HS3' := h_ ((HS3.out.below hb).below S3)
   have HS2 := h_ S1
   have HP2 := h_ S2
   have l2a := S1.lt
   have l2b := S2.lt
   have hi2 := h_ (show (Tryz.prog.info? 38).map (·.size) = some (srcC y v2).toArray.size by kernel_rfl)
   have hz2 := h_ (show (srcC y v2).toArray.size = 16 from rfl)
   clear hone hG hT hb S1 S2 S3 HB3 HG3 HT3 HS3
   obtain ⟨d0, d1, d2, d3, d4, d5, d6, d7, d8, d9, -⟩ := src16 HS3'.out
   obtain ⟨e0, e1, e2, e3, e4, e5, e6, e7, e8, e9, -⟩ := src16 HS2.out
   have q0 : ((((w2.alloc (.cells #[.string ⟨#[]⟩, .slice none 0 0, .slice none 0 0, .bool false, .int .i64 0, .int .i64 0, .int .i64 0, .int .u64 0, .int .u64 0, .slice none 0 0, .slice none 0 0, .slice none 0 0, .slice none 0 0, .slice none 0 0, .slice none 0 0, .int .i64 0] 38)).alloc (.cells #[.int .i64 0, .int .i64 0] 41)).setRow w2.heap.size (srcC y v2).toArray).setRow (w2.heap.size + 1) #[.int .i64 (0), .int .i64 (0)]).cell? ⟨w2.heap.size + 1, 0, none⟩ = some (.int .i64 0) := HP2.out.cell 0
   have l3 := HS3'.out.lt
   go_wp2_with (first | (refine wpList_store_row rfl 38 (.tmp 6) (.tmp 26) rfl w2.heap.size (srcC y v2).toArray rfl rfl 38 _ (heap_alloc2_old w2 _ _) hi2.out (by rw [hz2.out]; rfl) HON2.out ?_) | (refine wpList_store_row rfl 41 (.tmp 7) (.tmp 27) rfl (w2.heap.size + 1) #[.int .i64 (0), .int .i64 (0)] rfl rfl 41 _ ((setRow_other _ _ _ _ (by omega)).trans (heap_alloc2_new w2 _ _)) (by kernel_rfl) rfl (by kernel_rfl) ?_; generalize ((((w2.alloc (.cells #[.string ⟨#[]⟩, .slice none 0 0, .slice none 0 0, .bool false, .int .i64 0, .int .i64 0, .int .i64 0, .int .u64 0, .int .u64 0, .slice none 0 0, .slice none 0 0, .slice none 0 0, .slice none 0 0, .slice none 0 0, .slice none 0 0, .int .i64 0] 38)).alloc (.cells #[.int .i64 0, .int .i64 0] 41)).setRow w2.heap.size (srcC y v2).toArray).setRow (w2.heap.size + 1) #[.int .i64 (0), .int .i64 (0)]) = u2 at *; generalize w2.heap.size = g2 at *))
   have HSA := h_ (show Calls Tryz.prog 11 #[.agg #[.string x.name, v1.vC, v1.vCo, .bool x.fa, v1.k0, v1.k1, v1.k2, v1.k3, v1.k4, v1.k5], .agg #[.string y.name, v2.vC, v2.vCo, .bool y.fa, v2.k0, v2.k1, v2.k2, v2.k3, v2.k4, v2.k5]] u2 (fun e w' => e = .returned (.bool true) ∧ Below u2.heap.size u2 w') from by
    have q := lsame_any u2 HT3'.out (HT2.out.like (nx_cells HNX.out) (nx_cores HNX.out) (nx_cond HNX.out) HT3'.out.sizes)
    rw [show y.name = x.name from (nx_name HNX.out).symm, show y.fa = x.fa from (nx_fa HNX.out).symm]; exact q)
   refine HSA.out.mono ?_
   rintro e w4 ⟨rfl, hb⟩
   have HB4 := h_ (bt_ HB2.out hb)
   have HG4 := h_ (HG3'.out.below hb)
   have HS4 := h_ (HS3'.out.below hb)
   have HG5 := h_ (HG2.out.below hb)
   have HS5 := h_ (HS2.out.below hb)
   clear hb HSA l2a l2b l3 q0 d0 e0 d1 e1 d2 e2 d3 e3 d4 e4 d5 e5 d6 e6 d7 e7 d8 e8 d9 e9
   obtain ⟨pT, cT, eT, rT, _⟩ := HG4.out.tables
   obtain ⟨pU, cU, eU, rU, _⟩ := HG5.out.tables
   rw [show (gsrc x).tables = x.tables from rfl] at eT rT
   rw [show (gsrc y).tables = x.tables from (nx_tables HNX.out).symm] at eU rU
   have d10 : w4.cell? ⟨g1, 10, none⟩ = some (.slice pT x.tables.length cT) := by rw [← eT]; exact HS4.out.cell 10
   have e10 : w4.cell? ⟨g2, 10, none⟩ = some (.slice pU x.tables.length cU) := by rw [← eU]; exact HS5.out.cell 10
   have HTB := h_ (ltables_any (c := cT) (d := cU) w4 rT rU HNT.out)
   have l3 := HS4.out.lt
   have l4 := HS5.out.lt
   clear eT eU rT rU
   go_wp2_with fail
   refine HTB.out.mono ?_
   rintro e w5 ⟨rfl, hm⟩
   have hb : Below w4.heap.size w4 w5 := by obtain ⟨m, rfl⟩ := hm; exact bd_ (Below.refl _ _) m
   have HB5 := h_ (bt_ HB4.out hb)
   have HG6 := h_ (HG5.out.below hb)
   have HS6 := h_ (HS5.out.below hb)
   clear hb hm d10 e10 l3 l4 HTB
   obtain ⟨e0, e1, e2, e3, e4, e5, e6, e7, e8, e9, e10, e11, e12, e13, e14, e15⟩ := src16 HS6.out
   have l4 := HS6.out.lt
   go_wp2_with fail
   refine (HPR2.out w5 v2 HG6.out).mono ?_
   rintro e w6 ⟨rfl, hb⟩
   have HB6 := h_ (bt_ HB5.out hb)
   clear hb
   have hee : ((ba T).toList == (ba T).toList) = true := beq_self_eq_true _
   go_wp2_with fail
   go_ret
   exact ⟨rfl, HB6.out⟩
  ·have hcb : (ca == 0) = false := beq_eq_false_iff_ne.2 hc
   clear hc HPB
   have HON1 := h_ hone
   obtain ⟨S1, S2, S3⟩ := stored2 w1 (.cells #[.string ⟨#[]⟩, .slice none 0 0, .slice none 0 0, .bool false, .int .i64 0, .int .i64 0, .int .i64 0, .int .u64 0, .int .u64 0, .slice none 0 0, .slice none 0 0, .slice none 0 0, .slice none 0 0, .slice none 0 0, .slice none 0 0, .int .i64 0] 38) (.cells #[.int .i64 0, .int .i64 0] 41) 38 41 _ _ (srcC x v1).toArray #[.int .i64 (ca), .int .i64 (cb)] rfl rfl
   have HB1 := h_ (bt_ (bt_ HB0.out hb) S3)
   have HG1 := h_ (hG.below S3)
   have HT1 := h_ (hT.below S3)
   have HS1 := h_ S1
   have HP1 := h_ S2
   have l1a := S1.lt
   have l1b := S2.lt
   have hi1 := h_ (show (Tryz.prog.info? 38).map (·.size) = some (srcC x v1).toArray.size by kernel_rfl)
   have hz1 := h_ (show (srcC x v1).toArray.size = 16 from rfl)
   clear hone hG hT hb S1 S2 S3 HB0 
   have p0 : ((((w1.alloc (.cells #[.string ⟨#[]⟩, .slice none 0 0, .slice none 0 0, .bool false, .int .i64 0, .int .i64 0, .int .i64 0, .int .u64 0, .int .u64 0, .slice none 0 0, .slice none 0 0, .slice none 0 0, .slice none 0 0, .slice none 0 0, .slice none 0 0, .int .i64 0] 38)).alloc (.cells #[.int .i64 0, .int .i64 0] 41)).setRow w1.heap.size (srcC x v1).toArray).setRow (w1.heap.size + 1) #[.int .i64 (ca), .int .i64 (cb)]).cell? ⟨w1.heap.size + 1, 0, none⟩ = some (.int .i64 ca) := HP1.out.cell 0
   go_wp2_with (first | (refine wpList_store_row rfl 38 (.tmp 3) (.tmp 16) rfl w1.heap.size (srcC x v1).toArray rfl rfl 38 _ (heap_alloc2_old w1 _ _) hi1.out (by rw [hz1.out]; rfl) HON1.out ?_) | (refine wpList_store_row rfl 41 (.tmp 4) (.tmp 17) rfl (w1.heap.size + 1) #[.int .i64 (ca), .int .i64 (cb)] rfl rfl 41 _ ((setRow_other _ _ _ _ (by omega)).trans (heap_alloc2_new w1 _ _)) (by kernel_rfl) rfl (by kernel_rfl) ?_; generalize ((((w1.alloc (.cells #[.string ⟨#[]⟩, .slice none 0 0, .slice none 0 0, .bool false, .int .i64 0, .int .i64 0, .int .i64 0, .int .u64 0, .int .u64 0, .slice none 0 0, .slice none 0 0, .slice none 0 0, .slice none 0 0, .slice none 0 0, .slice none 0 0, .int .i64 0] 38)).alloc (.cells #[.int .i64 0, .int .i64 0] 41)).setRow w1.heap.size (srcC x v1).toArray).setRow (w1.heap.size + 1) #[.int .i64 (ca), .int .i64 (cb)]) = u1 at *; generalize w1.heap.size = g1 at *))
   go_ret
   exact ⟨rfl, HB1.out⟩
theorem lifted (os : Os) (started : os.Started) (H : Type) (enc : TypeId × Value → H) :
  ReturnsInHanded {} Tryz.checked os 3 .any (Rows.properBackSpec.pre6 enc Tryz.prog Tryz.f3 Rows.properBackRow.domain false) (Rows.properBackSpec.post enc Tryz.prog Tryz.f3 false true false false) := by
 refine returnsInHanded_of_change (C := Tryz.checked) own started (by kernel_rfl) Tryz.func3
  (ChangeSpec.witness6 (enc := enc) (C := Tryz.checked) false ⟨#[], #[.string ByteArray.empty], []⟩ 8 (by kernel_rfl) (by kernel_rfl) (by kernel_rfl) (by kernel_rfl)) ?_
 intro W base args ds gs before hval0 hW hcnd _
 have hval : ∀ (j : Nat) t v, Tryz.f3.params[j]? = some t → args[j]? = some v → Value.okWide Tryz.prog W .any base t v := hval0
 have hW' := hW
 obtain ⟨p, q, hA0, hV, rfl, hfz, hnd⟩ := hW
 have hA : DataW.TrodAll enc Tryz.prog W 0 (fun _ => true) true Tryz.f3.params.toList args.toList ds p := hA0
 rw [Tryz.params3] at hA hval
 obtain ⟨v0, vs0, d0, ds0, p0, q0, hargs, rfl, rfl, h0, r0⟩ := trodAll_cons hA
 obtain ⟨rfl, rfl, rfl⟩ := trodAll_nil r0
 obtain rfl : args = #[v0] := by cases args; simp_all
 obtain ⟨rfl, rfl⟩ := trodVars_none hV
 obtain ⟨a0, rfl, rfl, rfl, w0⟩ := open_string Tryz.underlying9 (hval 0 9 v0 rfl rfl) h0
 clear hA0 hval0
 refine (walk a0 W w0).mono fun e W' ⟨he, bel⟩ => ?_
 subst he
 exact ⟨_, rfl, _, _, _, [], _, [], hW', trodAll_mk1 (shut_bool Tryz.underlying4 _), (trodAll_cons_mk (shut_string Tryz.underlying9 w0) trodAll_mk0), rfl, bel.frame _, fun h => by cases h⟩
theorem over : Rows.properBackRow.holds Tryz.pinned (OpenSpec.ofChange Rows.properBackSpec) :=
 OpenClaim.holds_of_wide 3 Tryz.f3 rfl rfl rfl rfl rfl rfl rfl ⟨rfl, rfl, rfl, rfl, rfl⟩ rfl rfl rfl rfl rfl (by kernel_rfl) Tryz.func3 (by kernel_rfl)
  (of_decide_eq_true (by kernel_rfl)) (by unfold Func.isWrapper; first | (rw [if_pos (by decide +kernel)]; kernel_rfl) | (rw [if_neg (by decide +kernel)]; exact ⟨rfl, rfl⟩))
  (fun os started H enc _ => lifted os started H enc)
theorem proved : Rows.ProperBackSaid := over
#print axioms proved
end Go.Proofs.YtmnojnopejhebaaGreat.properBack
