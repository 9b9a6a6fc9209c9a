/- A test that is read and may be has the text that the page says: for every string. -/
import Derived.Test.YtmnojnopejhebaaGreatMgaa
import Derived.Test.YtmnojnopejhebaaGreatMgbi
import Derived.Test.YtmnojnopejhebaaGreatMgbn
import Derived.Test.YtmnojnopejhebaaGreatRows
import Derived.ShutString
import Derived.ChangeOld
import Derived.Lib.SmallJoins
namespace Go.Proofs.YtmnojnopejhebaaGreat.properPrints
open Go.ChangeShapes Go.WideShapes Go.ChangeAt Go.RowKit
open Go.ChangeMaps (open_string shut_string)
set_option maxRecDepth 100000
set_option maxHeartbeats 25600000
set_option linter.unusedVariables false
set_option linter.unusedSimpArgs false
theorem own : ownKnob Tryz.prog.godebug = none := by kernel_rfl
theorem laidOut : laidOutB Tryz.prog = true := by kernel_rfl
theorem walk (a0 : ByteArray) (w : World) (w0 : a0.size ≤ maxLen) :
  Calls Tryz.prog 4 #[.string a0] w fun e w' => e = .returned (.bool true) ∧ Below w.heap.size w w' := by
 have HSM := h_ (fun w1 => y0p a0 w1 w0)
 have HR1 := h_ (fun (w1 : World) => show Calls Tryz.prog 9 #[.string a0] w1 (fun e w' => ∃ v', e = .returned (.tuple #[.agg (srcC (d0i a0).1 v').toArray, .agg #[.int .i64 (d0i a0).2.1, .int .i64 (d0i a0).2.2]]) ∧ (srcC (d0i a0).1 v').toArray.all (·.oneCell') = true ∧ GRd w' (gsrc (d0i a0).1) v' ∧ TestRd w' (d0i a0).1 v' ∧ Below w1.heap.size w1 w') from p0g a0 w1 w0)
 have HPB := h_ (fun (h : (d0i a0).2.1 = 0) (hr : (f0g a0 0 []).length ≤ 60) => l1e h hr)
 have HPT := h_ (fun (h : (d0i a0).2.1 = 0) => pro_rt h)
 go_enter Tryz.func4, Tryz.ntmps4
 go_wp2_with fail
 refine (y0t _).mono ?_
 rintro e wa ⟨rfl, hb1⟩
 have HBa := h_ hb1
 clear hb1
 go_wp2_with fail
 refine (HSM.out _).mono ?_
 rintro e wb ⟨b, rfl, hbs, hb⟩
 have HB0 := h_ (bt_ HBa.out hb)
 clear HBa hb HSM
 cases b with
 | false =>
  go_wp2_with fail
  go_ret
  exact ⟨rfl, HB0.out⟩
 | true =>
  have HSZ := h_ (hbs rfl)
  clear hbs
  go_wp2_with fail
  refine (HR1.out _).mono ?_
  rintro e w1 ⟨v1, rfl, hone, hG, hT, hb⟩
  generalize d0i a0 = y at *
  obtain ⟨x, ca, cb⟩ := y
  dsimp only at HPB HPT hone hG hT ⊢
  by_cases hc : ca = 0
  ·subst hc
   have HON1 := h_ hone
   obtain ⟨S1, S2, S3⟩ := o0z w1 (.cells #[.string ⟨#[]⟩, .slice none 0 0, .slice none 0 0, .bool false, .int .i64 0, .int .i64 0, .int .i64 0, .int .u64 0, .int .u64 0, .slice none 0 0, .slice none 0 0, .slice none 0 0, .slice none 0 0, .slice none 0 0, .slice none 0 0, .int .i64 0] 38) (.cells #[.int .i64 0, .int .i64 0] 41) 38 41 _ _ (srcC x v1).toArray #[.int .i64 (0), .int .i64 (cb)] rfl rfl
   have HB1 := h_ (bt_ (bt_ HB0.out hb) S3)
   have HG1 := h_ (hG.below S3)
   have HT1 := h_ (hT.below S3)
   have HS1 := h_ S1
   have HP1 := h_ S2
   have l1a := S1.lt
   have l1b := S2.lt
   have hi1 := h_ (show (Tryz.prog.info? 38).map (·.size) = some (srcC x v1).toArray.size by kernel_rfl)
   have hz1 := h_ (show (srcC x v1).toArray.size = 16 from rfl)
   clear hone hG hT hb S1 S2 S3 HB0 
   go_wp2_with (first | (refine wpList_store_row rfl 38 (.tmp 3) (.tmp 13) rfl w1.heap.size (srcC x v1).toArray rfl rfl 38 _ (heap_alloc2_old w1 _ _) hi1.out (by rw [hz1.out]; rfl) HON1.out ?_) | (refine wpList_store_row rfl 41 (.tmp 4) (.tmp 14) rfl (w1.heap.size + 1) #[.int .i64 (0), .int .i64 (cb)] rfl rfl 41 _ ((setRow_other _ _ _ _ (by omega)).trans (heap_alloc2_new w1 _ _)) (by kernel_rfl) rfl (by kernel_rfl) ?_; generalize ((((w1.alloc (.cells #[.string ⟨#[]⟩, .slice none 0 0, .slice none 0 0, .bool false, .int .i64 0, .int .i64 0, .int .i64 0, .int .u64 0, .int .u64 0, .slice none 0 0, .slice none 0 0, .slice none 0 0, .slice none 0 0, .slice none 0 0, .slice none 0 0, .int .i64 0] 38)).alloc (.cells #[.int .i64 0, .int .i64 0] 41)).setRow w1.heap.size (srcC x v1).toArray).setRow (w1.heap.size + 1) #[.int .i64 (0), .int .i64 (cb)]) = u1 at *; generalize w1.heap.size = g1 at *))
   obtain ⟨hok, hlen⟩ := HPB.out (by trivial) HSZ.out
   obtain ⟨cn, hrt⟩ := HPT.out (by trivial)
   obtain ⟨p3, c3, e3, _⟩ := HG1.out.tables
   rw [show (gsrc x).tables = x.tables from rfl] at e3
   have HPV := h_ (fun (w1 : World) (h : GRd w1 (gsrc x) v1) => show Calls Tryz.prog 10 #[.agg [.string x.name, v1.vC, v1.vCo, .bool x.fa, v1.k0, v1.k1, v1.k2, v1.k3, v1.k4, v1.k5, v1.vT, v1.vPT, v1.vPC, v1.vPCo, v1.vPI, .int .i64 x.pCond].toArray] w1 (fun e w' => e = .returned (.string (ba (l0r x))) ∧ Below w1.heap.size w1 w') from q0g w1 h hok hlen)
   have HRV := h_ (fun (w1 : World) (h : GRd w1 (gsrc x) v1) => u0s w1 h hok hlen hrt e3)
   rw [e3] at HPV
   dsimp only [List.toArray] at HPV
   clear HPB HPT hok hlen hrt l1a l1b
   obtain ⟨d0, d1, d2, d3, d4, d5, d6, d7, d8, d9, d10, d11, d12, d13, d14, d15⟩ := b1k HS1.out
   rw [e3] at d10
   have p0 : u1.cell? ⟨g1 + 1, 0, none⟩ = some (.int .i64 0) := HP1.out.cell 0
   have l1a := HS1.out.lt
   have l1b := HP1.out.lt
   clear e3
   generalize l0r x = T at *
   have hee : ((ba T).toList == (ba T).toList) = true := beq_self_eq_true _
   refine wp_region_held_drew (S := (fun w' => w'.cell? ⟨g1 + 1, 0, none⟩ = some (.int .i64 0) ∧ w'.cell? ⟨g1, 0, none⟩ = some (.string x.name) ∧ w'.cell? ⟨g1, 1, none⟩ = some (v1.vC) ∧ w'.cell? ⟨g1, 2, none⟩ = some (v1.vCo) ∧ w'.cell? ⟨g1, 3, none⟩ = some (.bool x.fa) ∧ w'.cell? ⟨g1, 4, none⟩ = some (v1.k0) ∧ w'.cell? ⟨g1, 5, none⟩ = some (v1.k1) ∧ w'.cell? ⟨g1, 6, none⟩ = some (v1.k2) ∧ w'.cell? ⟨g1, 7, none⟩ = some (v1.k3) ∧ w'.cell? ⟨g1, 8, none⟩ = some (v1.k4) ∧ w'.cell? ⟨g1, 9, none⟩ = some (v1.k5) ∧ w'.cell? ⟨g1, 10, none⟩ = some (.slice p3 x.tables.length c3) ∧ w'.cell? ⟨g1, 11, none⟩ = some (v1.vPT) ∧ w'.cell? ⟨g1, 12, none⟩ = some (v1.vPC) ∧ w'.cell? ⟨g1, 13, none⟩ = some (v1.vPCo) ∧ w'.cell? ⟨g1, 14, none⟩ = some (v1.vPI) ∧ w'.cell? ⟨g1, 15, none⟩ = some (.int .i64 x.pCond))) (by kernel_rfl) (by (try dsimp only); exact ⟨p0, d0, d1, d2, d3, d4, d5, d6, d7, d8, d9, d10, d11, d12, d13, d14, d15⟩) (fun hHeld => ?_)
   refine tk1 0 15 rfl ?_
   simp only [Act.put, tka, tk0, tkS]
   refine tk1 1 16 rfl ?_
   simp only [Act.put, tka, tk0, tkS]
   refine tk1 2 17 rfl ?_
   simp only [Act.put, tka, tk0, tkS]
   refine tk1 3 18 rfl ?_
   simp only [Act.put, tka, tk0, tkS]
   refine tk1 4 19 rfl ?_
   simp only [Act.put, tka, tk0, tkS]
   refine tk1 6 21 rfl ?_
   simp only [Act.put, tka, tk0, tkS]
   refine tk1 7 22 rfl ?_
   simp only [Act.put, tka, tk0, tkS]
   refine tk1 8 23 rfl ?_
   simp only [Act.put, tka, tk0, tkS]
   refine tk1 9 24 rfl ?_
   simp only [Act.put, tka, tk0, tkS]
   refine wpAnyH_ready (rs := [5]) (by kernel_rfl) (by simp) ?_
   refine AllReadyH.cons (o := ⟨some 20, _, _, _, _, _⟩) rfl (fun K hK => ?_) AllReadyH.nil
   go_simp
   go_at_call 10; refine (HPV.out _ (HG1.out.below (Below.refl _ _).drew)).mono ?_; rintro e w2 ⟨rfl, bw1⟩
   refine hK.out _ _ (by (try dsimp only); have R := bt_ ((Below.refl u1.heap.size u1).drew) bw1; exact ⟨cell_below p0 R, cell_below d0 R, cell_below d1 R, cell_below d2 R, cell_below d3 R, cell_below d4 R, cell_below d5 R, cell_below d6 R, cell_below d7 R, cell_below d8 R, cell_below d9 R, cell_below d10 R, cell_below d11 R, cell_below d12 R, cell_below d13 R, cell_below d14 R, cell_below d15 R⟩) ?_
   clear hK K hHeld
   intro hHeld
   try simp only [Act.put, tka, tk0, tkS]
   refine wpAnyH_ready (rs := [10]) (by kernel_rfl) (by simp) ?_
   refine AllReadyH.cons (o := ⟨some 25, _, _, _, _, _⟩) rfl (fun K hK => ?_) AllReadyH.nil
   go_simp
   go_at_call 13; refine (HRV.out _ ((HG1.out.below (Below.refl _ _).drew).below bw1)).mono ?_; rintro e w3 ⟨rfl, bw2⟩
   refine hK.out _ _ (by (try dsimp only); have R := bt_ (bt_ ((Below.refl u1.heap.size u1).drew) bw1) bw2; exact ⟨cell_below p0 R, cell_below d0 R, cell_below d1 R, cell_below d2 R, cell_below d3 R, cell_below d4 R, cell_below d5 R, cell_below d6 R, cell_below d7 R, cell_below d8 R, cell_below d9 R, cell_below d10 R, cell_below d11 R, cell_below d12 R, cell_below d13 R, cell_below d14 R, cell_below d15 R⟩) ?_
   clear hK K hHeld
   intro hHeld
   try simp only [Act.put, tka, tk0, tkS]
   refine tk1 11 26 rfl ?_
   simp only [Act.put, tka, tk0, tkS]
   refine tk1 12 27 rfl ?_
   simp only [Act.put, tka, tk0, tkS]
   refine tk1 13 2 rfl ?_
   simp only [Act.put, tka, tk0, tkS]
   refine wpAnyH_done (by kernel_rfl) ?_ _
   go_wp2_with fail
   go_ret
   exact ⟨rfl, bt_ (bt_ HB1.out.drew bw1) bw2⟩
  ·have hcb : (ca != 0) = true := bne_iff_ne.2 hc
   clear hc HPB HPT
   have HON1 := h_ hone
   obtain ⟨S1, S2, S3⟩ := o0z w1 (.cells #[.string ⟨#[]⟩, .slice none 0 0, .slice none 0 0, .bool false, .int .i64 0, .int .i64 0, .int .i64 0, .int .u64 0, .int .u64 0, .slice none 0 0, .slice none 0 0, .slice none 0 0, .slice none 0 0, .slice none 0 0, .slice none 0 0, .int .i64 0] 38) (.cells #[.int .i64 0, .int .i64 0] 41) 38 41 _ _ (srcC x v1).toArray #[.int .i64 (ca), .int .i64 (cb)] rfl rfl
   have HB1 := h_ (bt_ (bt_ HB0.out hb) S3)
   have HG1 := h_ (hG.below S3)
   have HT1 := h_ (hT.below S3)
   have HS1 := h_ S1
   have HP1 := h_ S2
   have l1a := S1.lt
   have l1b := S2.lt
   have hi1 := h_ (show (Tryz.prog.info? 38).map (·.size) = some (srcC x v1).toArray.size by kernel_rfl)
   have hz1 := h_ (show (srcC x v1).toArray.size = 16 from rfl)
   clear hone hG hT hb S1 S2 S3 HB0 
   go_wp2_with (first | (refine wpList_store_row rfl 38 (.tmp 3) (.tmp 13) rfl w1.heap.size (srcC x v1).toArray rfl rfl 38 _ (heap_alloc2_old w1 _ _) hi1.out (by rw [hz1.out]; rfl) HON1.out ?_) | (refine wpList_store_row rfl 41 (.tmp 4) (.tmp 14) rfl (w1.heap.size + 1) #[.int .i64 (ca), .int .i64 (cb)] rfl rfl 41 _ ((setRow_other _ _ _ _ (by omega)).trans (heap_alloc2_new w1 _ _)) (by kernel_rfl) rfl (by kernel_rfl) ?_; generalize ((((w1.alloc (.cells #[.string ⟨#[]⟩, .slice none 0 0, .slice none 0 0, .bool false, .int .i64 0, .int .i64 0, .int .i64 0, .int .u64 0, .int .u64 0, .slice none 0 0, .slice none 0 0, .slice none 0 0, .slice none 0 0, .slice none 0 0, .slice none 0 0, .int .i64 0] 38)).alloc (.cells #[.int .i64 0, .int .i64 0] 41)).setRow w1.heap.size (srcC x v1).toArray).setRow (w1.heap.size + 1) #[.int .i64 (ca), .int .i64 (cb)]) = u1 at *; generalize w1.heap.size = g1 at *))
   have p0 : u1.cell? ⟨g1 + 1, 0, none⟩ = some (.int .i64 ca) := HP1.out.cell 0
   have l1b := HP1.out.lt
   refine wp_region_held_drew (S := (fun w' => w'.cell? ⟨g1 + 1, 0, none⟩ = some (.int .i64 ca))) (by kernel_rfl) (by (try dsimp only); exact p0) (fun hHeld => ?_)
   refine tk1 0 15 rfl ?_
   simp only [Act.put, tka, tk0, tkS]
   refine tk1 1 16 rfl ?_
   simp only [Act.put, tka, tk0, tkS]
   refine tk1 2 17 rfl ?_
   simp only [Act.put, tka, tk0, tkS]
   refine tk1 3 18 rfl ?_
   simp only [Act.put, tka, tk0, tkS]
   refine wpAnyH_take (i := 4) (oi := ⟨some 19, _, _, _, _, _⟩) (v := undef) rfl (by kernel_rfl) (by kernel_rfl) (by kernel_rfl) (fun _ _ _ h => h) (Or.inr ⟨by rfl, rfl⟩) (by assumption) ?_
   simp only [Act.put, tka, tk0, tkS]
   refine wpAnyH_take (i := 5) (oi := ⟨some 20, _, _, _, _, _⟩) (v := undef) rfl (by kernel_rfl) (by kernel_rfl) (by kernel_rfl) (fun _ _ _ h => h) (Or.inr ⟨by rfl, rfl⟩) (by assumption) ?_
   simp only [Act.put, tka, tk0, tkS]
   refine wpAnyH_take (i := 6) (oi := ⟨some 21, _, _, _, _, _⟩) (v := undef) rfl (by kernel_rfl) (by kernel_rfl) (by kernel_rfl) (fun _ _ _ h => h) (Or.inr ⟨by rfl, rfl⟩) (by assumption) ?_
   simp only [Act.put, tka, tk0, tkS]
   refine wpAnyH_take (i := 7) (oi := ⟨some 22, _, _, _, _, _⟩) (v := undef) rfl (by kernel_rfl) (by kernel_rfl) (by kernel_rfl) (fun _ _ _ h => h) (Or.inr ⟨by rfl, rfl⟩) (by assumption) ?_
   simp only [Act.put, tka, tk0, tkS]
   refine wpAnyH_take (i := 8) (oi := ⟨some 23, _, _, _, _, _⟩) (v := undef) rfl (by kernel_rfl) (by kernel_rfl) (by kernel_rfl) (fun _ _ _ h => h) (Or.inr ⟨by rfl, rfl⟩) (by assumption) ?_
   simp only [Act.put, tka, tk0, tkS]
   refine wpAnyH_take (i := 9) (oi := ⟨some 24, _, _, _, _, _⟩) (v := undef) rfl (by kernel_rfl) (by kernel_rfl) (by kernel_rfl) (fun _ _ _ h => h) (Or.inr ⟨by rfl, rfl⟩) (by assumption) ?_
   simp only [Act.put, tka, tk0, tkS]
   refine wpAnyH_take (i := 10) (oi := ⟨some 25, _, _, _, _, _⟩) (v := undef) rfl (by kernel_rfl) (by kernel_rfl) (by kernel_rfl) (fun _ _ _ h => h) (Or.inr ⟨by rfl, rfl⟩) (by assumption) ?_
   simp only [Act.put, tka, tk0, tkS]
   refine wpAnyH_take (i := 11) (oi := ⟨some 26, _, _, _, _, _⟩) (v := undef) rfl (by kernel_rfl) (by kernel_rfl) (by kernel_rfl) (fun _ _ _ h => h) (Or.inr ⟨by rfl, rfl⟩) (by assumption) ?_
   simp only [Act.put, tka, tk0, tkS]
   refine tk1 12 27 rfl ?_
   simp only [Act.put, tka, tk0, tkS]
   refine tk1 13 2 rfl ?_
   simp only [Act.put, tka, tk0, tkS]
   refine wpAnyH_done (by kernel_rfl) ?_ _
   go_wp2_with fail
   go_ret
   exact ⟨rfl, HB1.out.drew⟩
theorem lifted (os : Os) (started : os.Started) (H : Type) (enc : TypeId × Value → H) :
  ReturnsInHanded {} Tryz.checked os 4 .any (Rows.properPrintsSpec.pre6 enc Tryz.prog Tryz.f4 Rows.properPrintsRow.domain false) (Rows.properPrintsSpec.post enc Tryz.prog Tryz.f4 false true false false) := by
 refine returnsInHanded_of_change (C := Tryz.checked) own started (by kernel_rfl) Tryz.func4
  (ChangeSpec.witness6 (enc := enc) (C := Tryz.checked) false ⟨#[], #[.string ByteArray.empty], []⟩ 8 (by kernel_rfl) (by kernel_rfl) (by kernel_rfl) (by kernel_rfl)) ?_
 intro W base args ds gs before hval0 hW hcnd _
 have hval : ∀ (j : Nat) t v, Tryz.f4.params[j]? = some t → args[j]? = some v → Value.okWide Tryz.prog W .any base t v := hval0
 have hW' := hW
 obtain ⟨p, q, hA0, hV, rfl, hfz, hnd⟩ := hW
 have hA : DataW.TrodAll enc Tryz.prog W 0 (fun _ => true) true Tryz.f4.params.toList args.toList ds p := hA0
 rw [Tryz.params4] at hA hval
 obtain ⟨v0, vs0, d0, ds0, p0, q0, hargs, rfl, rfl, h0, r0⟩ := trodAll_cons hA
 obtain ⟨rfl, rfl, rfl⟩ := trodAll_nil r0
 obtain rfl : args = #[v0] := by cases args; simp_all
 obtain ⟨rfl, rfl⟩ := trodVars_none hV
 obtain ⟨a0, rfl, rfl, rfl, w0⟩ := open_string Tryz.underlying9 (hval 0 9 v0 rfl rfl) h0
 clear hA0 hval0
 refine (walk a0 W w0).mono fun e W' ⟨he, bel⟩ => ?_
 subst he
 exact ⟨_, rfl, _, _, _, [], _, [], hW', trodAll_mk1 (shut_bool Tryz.underlying4 _), (trodAll_cons_mk (shut_string Tryz.underlying9 w0) trodAll_mk0), rfl, bel.frame _, fun h => by cases h⟩
theorem over : Rows.properPrintsRow.holds Tryz.pinned (OpenSpec.ofChange Rows.properPrintsSpec) :=
 OpenClaim.holds_of_wide 4 Tryz.f4 rfl rfl rfl rfl rfl rfl rfl ⟨rfl, rfl, rfl, rfl, rfl⟩ rfl rfl rfl rfl rfl (by kernel_rfl) Tryz.func4 (by kernel_rfl)
  (of_decide_eq_true (by kernel_rfl)) (by unfold Func.isWrapper; first | (rw [if_pos (by decide +kernel)]; kernel_rfl) | (rw [if_neg (by decide +kernel)]; exact ⟨rfl, rfl⟩))
  (fun os started H enc _ => lifted os started H enc)
theorem proved : Rows.ProperPrintsSaid := over
#print axioms proved
end Go.Proofs.YtmnojnopejhebaaGreat.properPrints
