/- A test that is read and may be begins with the memory that its cells say: for every string and every word. -/
import Derived.Test.YtmnojnopejhebaaGreatMgaa
import Derived.Test.YtmnojnopejhebaaGreatMgbl
import Derived.Test.YtmnojnopejhebaaGreatRows
import Derived.ShutString
import Derived.ChangeOld
import Derived.Lib.SmallJoins
namespace Go.Proofs.YtmnojnopejhebaaGreat.properMemory
open Go.ChangeShapes Go.WideShapes Go.ChangeAt Go.RowKit
open Go.ChangeMaps (open_string shut_string)
set_option maxRecDepth 100000
set_option maxHeartbeats 25600000
set_option linter.unusedVariables false
set_option linter.unusedSimpArgs false
theorem own : ownKnob Tryz.prog.godebug = none := by kernel_rfl
theorem laidOut : laidOutB Tryz.prog = true := by kernel_rfl
theorem walk (a0 : ByteArray) (a1 : Int) (w : World) (w0 : a0.size ≤ maxLen) (w1' : (Lit.int .u64 a1).wf = true) :
  Calls Tryz.prog 6 #[.string a0, .int .u64 a1] w fun e w' => e = .returned (.bool true) ∧ Below w.heap.size w w' := by
 obtain ⟨b, rfl, hb64⟩ : ∃ b : Nat, a1 = (b : Int) ∧ b < 18446744073709551616 := by
  have q : (0 : Int) ≤ a1 ∧ a1 ≤ 18446744073709551615 := by
   unfold Lit.wf at w1'
   simp only [Bool.and_eq_true, decide_eq_true_eq] at w1'
   exact w1'
  exact ⟨a1.toNat, by omega, by omega⟩
 clear w1'
 have HSM := h_ (fun w1 => y0x a0 w1 w0)
 have HR1 := h_ (fun (w1 : World) => show Calls Tryz.prog 9 #[.string a0] w1 (fun e w' => ∃ v', e = .returned (.tuple #[.agg (srcC (c0o a0).1 v').toArray, .agg #[.int .i64 (c0o a0).2.1, .int .i64 (c0o a0).2.2]]) ∧ (srcC (c0o a0).1 v').toArray.all (·.oneCell') = true ∧ GRd w' (gsrc (c0o a0).1) v' ∧ TestRd w' (c0o a0).1 v' ∧ Below w1.heap.size w1 w') from o0s a0 w1 w0)
 have HPC := h_ (fun (h : (c0o a0).2.1 = 0) => c1v h)
 go_enter Tryz.func6, Tryz.ntmps6
 go_wp2_with fail
 refine (z0d _).mono ?_
 rintro e wa ⟨rfl, hb1⟩
 have HBa := h_ hb1
 clear hb1
 go_wp2_with fail
 refine (HSM.out _).mono ?_
 rintro e wb ⟨b, rfl, hbs, hb⟩
 have HB0 := h_ (bt_ HBa.out hb)
 clear HBa hb HSM
 cases b with
 | false =>
  go_wp2_with fail
  go_ret
  exact ⟨rfl, HB0.out⟩
 | true =>
  have HSZ := h_ (hbs rfl)
  clear hbs
  go_wp2_with fail
  refine (HR1.out _).mono ?_
  rintro e w1 ⟨v1, rfl, hone, hG, hT, hb⟩
  generalize c0o a0 = y at *
  obtain ⟨x, ca, cb⟩ := y
  dsimp only at HPC hone hG hT ⊢
  by_cases hc : ca = 0
  ·subst hc
   obtain ⟨hca, hcd, hcl⟩ := HPC.out (by trivial)
   clear HPC
   have HON1 := h_ hone
   obtain ⟨S1, S2, S3⟩ := o0l w1 (.cells #[.string ⟨#[]⟩, .slice none 0 0, .slice none 0 0, .bool false, .int .i64 0, .int .i64 0, .int .i64 0, .int .u64 0, .int .u64 0, .slice none 0 0, .slice none 0 0, .slice none 0 0, .slice none 0 0, .slice none 0 0, .slice none 0 0, .int .i64 0] 38) (.cells #[.int .i64 0, .int .i64 0] 41) 38 41 _ _ (srcC x v1).toArray #[.int .i64 (0), .int .i64 (cb)] rfl rfl
   have HB1 := h_ (bt_ (bt_ HB0.out hb) S3)
   have HG1 := h_ (hG.below S3)
   have HT1 := h_ (hT.below S3)
   have HS1 := h_ S1
   have HP1 := h_ S2
   have l1a := S1.lt
   have l1b := S2.lt
   have hi1 := h_ (show (Tryz.prog.info? 38).map (·.size) = some (srcC x v1).toArray.size by kernel_rfl)
   have hz1 := h_ (show (srcC x v1).toArray.size = 16 from rfl)
   clear hone hG hT hb S1 S2 S3 HB0 
   obtain ⟨d0, d1, d2, d3, d4, d5, d6, d7, d8, d9, d10, d11, d12, d13, d14, d15⟩ := b1w HS1.out
   have p0 : ((((w1.alloc (.cells #[.string ⟨#[]⟩, .slice none 0 0, .slice none 0 0, .bool false, .int .i64 0, .int .i64 0, .int .i64 0, .int .u64 0, .int .u64 0, .slice none 0 0, .slice none 0 0, .slice none 0 0, .slice none 0 0, .slice none 0 0, .slice none 0 0, .int .i64 0] 38)).alloc (.cells #[.int .i64 0, .int .i64 0] 41)).setRow w1.heap.size (srcC x v1).toArray).setRow (w1.heap.size + 1) #[.int .i64 (0), .int .i64 (cb)]).cell? ⟨w1.heap.size + 1, 0, none⟩ = some (.int .i64 0) := HP1.out.cell 0
   obtain ⟨pc, cc, ec, RC, -⟩ := HG1.out.cells
   rw [show (gsrc x).cells = x.cells from rfl] at ec RC
   have HEC := h_ ec
   have HRC9 := h_ RC
   clear ec RC
   have hclt : ∀ p ∈ x.cells, p.1 < 18446744073709551616 ∧ p.2 < 18446744073709551616 := fun p hp => HG1.out.sizes.clt p hp
   have HMEM := h_ (fun (w1 : World) (h : RdV w1 2 v1.vC x.cells.length (cellL x.cells)) => show Calls Tryz.prog 19 #[.agg #[.string x.name, v1.vC, v1.vCo, .bool x.fa, v1.k0, v1.k1, v1.k2, v1.k3, v1.k4, v1.k5]] w1 (fun e w' => ∃ kv vv, e = .returned (.agg #[kv, vv]) ∧ MapAt w' kv vv (memF [] x.cells) ∧ Below w1.heap.size w1 w') from v0f w1 h hclt hca hcd (by omega))
   have HGL := h_ (l1j hcd (j1o hcd) b)
   have HRR := h_ (fun (W : World) (h : Rds W 2 pc x.cells.length (cellL x.cells)) => s0t (c := cc) W h hcd (by omega) b)
   have HRE := h_ (fun (W : World) (h : Rds W 2 pc x.cells.length (cellL x.cells)) => y0w (c := cc) W h hcd (by omega))
   have HML := h_ (show (memF [] x.cells).length ≤ 20000 by have := (j1o hcd).len; omega)
   clear hca hcd hcl hclt
   go_wp2_with (first | (refine wpList_store_row rfl 38 (.tmp 5) (.tmp 16) rfl w1.heap.size (srcC x v1).toArray rfl rfl 38 _ (heap_alloc2_old w1 _ _) hi1.out (by rw [hz1.out]; rfl) HON1.out ?_) | (refine wpList_store_row rfl 41 (.tmp 6) (.tmp 17) rfl (w1.heap.size + 1) #[.int .i64 (0), .int .i64 (cb)] rfl rfl 41 _ ((setRow_other _ _ _ _ (by omega)).trans (heap_alloc2_new w1 _ _)) (by kernel_rfl) rfl (by kernel_rfl) ?_; generalize ((((w1.alloc (.cells #[.string ⟨#[]⟩, .slice none 0 0, .slice none 0 0, .bool false, .int .i64 0, .int .i64 0, .int .i64 0, .int .u64 0, .int .u64 0, .slice none 0 0, .slice none 0 0, .slice none 0 0, .slice none 0 0, .slice none 0 0, .slice none 0 0, .int .i64 0] 38)).alloc (.cells #[.int .i64 0, .int .i64 0] 41)).setRow w1.heap.size (srcC x v1).toArray).setRow (w1.heap.size + 1) #[.int .i64 (0), .int .i64 (cb)]) = u1 at *; generalize w1.heap.size = g1 at *))
   refine (HMEM.out u1 HG1.out.cells).mono ?_
   rintro e w2 ⟨kv, vv, rfl, hm, hb⟩
   have HB2 := h_ (bt_ HB1.out hb)
   have HS2 := h_ (HS1.out.below hb)
   have HRC0 := h_ (HRC9.out.below hb)
   obtain ⟨p1, c1, e1, -⟩ := hm.keys
   obtain ⟨p2, c2, e2, -⟩ := hm.vals
   generalize memF [] x.cells = m at *
   generalize (m.map Prod.fst).length = N1 at e1
   generalize (m.map Prod.snd).length = N2 at e2
   subst e1 e2
   have HMP := h_ (hm.below (bl_ (Below.refl w2.heap.size w2) (.cells #[.slice p1 N1 c1, .slice p2 N2 c2] 59)))
   have HRC := h_ (HRC0.out.below (bl_ (Below.refl w2.heap.size w2) (.cells #[.slice p1 N1 c1, .slice p2 N2 c2] 59)))
   have HSX := h_ (HS2.out.below (bl_ (Below.refl w2.heap.size w2) (.cells #[.slice p1 N1 c1, .slice p2 N2 c2] 59)))
   have HBX := h_ (bl_ HB2.out (.cells #[.slice p1 N1 c1, .slice p2 N2 c2] 59))
   have HNB := h_ (Blk.new w2 59 [.slice p1 N1 c1, .slice p2 N2 c2])
   have HRD := h_ (fun (W : World) (h : MapAt W (.slice p1 N1 c1) (.slice p2 N2 c2) m) => d1n W h b hb64)
   rw [HGL.out] at HRD
   have HCE := h_ (fun (W : World) (h : MapAt W (.slice p1 N1 c1) (.slice p2 N2 c2) m) => z0l W h)
   have HSM2 := h_ (fun (W : World) (b1 b2 : Nat) (v1 v2 : Value) (h1 : W.ownsRow b1 79 2 v1 m.length (cellL m)) (h2 : W.ownsRow b2 79 2 v2 m.length (cellL m)) => show Calls Tryz.prog 22 #[v1, v2] W (fun e w' => e = .returned (.bool true) ∧ ∃ k, w' = W.drewN k) from by
    obtain ⟨p7, c7, rfl, R7, -⟩ := Rds.of_own h1
    obtain ⟨p8, c8, rfl, R8, -⟩ := Rds.of_own h2
    exact c1f W R7 R8 HML.out)
   clear hm hb HMEM p0 l1a l1b HB2 HS2 HRC0 HRC9 HGL d0 d1 d2 d3 d4 d5 d6 d7 d8 d9 d10 d11 d12 d13 d14 d15
   go_wp2_with fail
   generalize w2.alloc (.cells #[.slice p1 N1 c1, .slice p2 N2 c2] 59) = W9 at *
   generalize w2.heap.size = h9 at *
   have d1 := HSX.out.cell 1
   dsimp only [srcC] at d1
   simp only [gz_, gs_] at d1
   rw [HEC.out] at d1
   have q0 := HNB.out.cell 0
   have q1 := HNB.out.cell 1
   simp only [gz_, gs_] at q0 q1
   have l1 := HSX.out.lt
   have l2 := HNB.out.lt
   generalize rd1 x.cells b = zr at *
   refine wp_region_held_drew (S := (fun w' => w'.cell? ⟨g1, 1, none⟩ = some (.slice pc x.cells.length cc) ∧ w'.cell? ⟨h9, 0, none⟩ = some (.slice p1 N1 c1) ∧ w'.cell? ⟨h9, 1, none⟩ = some (.slice p2 N2 c2))) (by kernel_rfl) (by (try dsimp only); exact ⟨d1, q0, q1⟩) (fun hHeld => ?_)
   refine tk1 0 24 rfl ?_
   simp only [Act.put, tka, tk0, tkS]
   refine tk1 1 25 rfl ?_
   simp only [Act.put, tka, tk0, tkS]
   refine tk1 3 27 rfl ?_
   simp only [Act.put, tka, tk0, tkS]
   refine tk1 4 28 rfl ?_
   simp only [Act.put, tka, tk0, tkS]
   refine tk1 5 29 rfl ?_
   simp only [Act.put, tka, tk0, tkS]
   refine tk1 6 30 rfl ?_
   simp only [Act.put, tka, tk0, tkS]
   refine wpAnyH_ready (rs := [2]) (by kernel_rfl) (by simp) ?_
   refine AllReadyH.cons (o := ⟨some 26, _, _, _, _, _⟩) rfl (fun K hK => ?_) AllReadyH.nil
   go_simp
   go_at_call 20; refine (HRD.out _ (HMP.out.below (Below.refl _ _).drew)).mono ?_; rintro e wA ⟨rfl, bwA⟩; have R1 := bt_ ((Below.refl W9.heap.size W9).drew) bwA
   refine hK.out _ _ (by (try dsimp only); exact ⟨cell_below d1 R1, cell_below q0 R1, cell_below q1 R1⟩) ?_
   clear hK K hHeld
   intro hHeld
   try simp only [Act.put, tka, tk0, tkS]
   refine wpAnyH_ready (rs := [7]) (by kernel_rfl) (by simp) ?_
   refine AllReadyH.cons (o := ⟨some 31, _, _, _, _, _⟩) rfl (fun K hK => ?_) AllReadyH.nil
   go_simp
   go_at_call 21; refine (HRR.out _ (HRC.out.below R1)).mono ?_; rintro e wB ⟨rfl, jB, rfl⟩; have R2 := bd_ R1 jB
   refine hK.out _ _ (by (try dsimp only); exact ⟨cell_below d1 R2, cell_below q0 R2, cell_below q1 R2⟩) ?_
   clear hK K hHeld
   intro hHeld
   try simp only [Act.put, tka, tk0, tkS]
   refine tk1 8 32 rfl ?_
   simp only [Act.put, tka, tk0, tkS]
   refine tk1 9 33 rfl ?_
   simp only [Act.put, tka, tk0, tkS]
   refine tk1 10 34 rfl ?_
   simp only [Act.put, tka, tk0, tkS]
   refine tk1 12 36 rfl ?_
   simp only [Act.put, tka, tk0, tkS]
   refine tk1 13 37 rfl ?_
   simp only [Act.put, tka, tk0, tkS]
   refine tk1 14 38 rfl ?_
   simp only [Act.put, tka, tk0, tkS]
   refine wpAnyH_ready (rs := [11]) (by kernel_rfl) (by simp) ?_
   refine AllReadyH.cons (o := ⟨some 35, _, _, _, _, _⟩) rfl (fun K hK => ?_) AllReadyH.nil
   go_simp
   go_at_call 23; refine (HCE.out _ (HMP.out.below R2)).mono ?_; rintro e wC ⟨vC, rfl, hoC, bwC⟩; have R3 := bt_ R2 bwC; obtain ⟨p5, c5, e5, -⟩ := a0i hoC; subst e5
   refine hK.out _ _ (by (try dsimp only); exact ⟨cell_below d1 R3, cell_below q0 R3, cell_below q1 R3⟩) ?_
   clear hK K hHeld
   intro hHeld
   try simp only [Act.put, tka, tk0, tkS]
   refine wpAnyH_ready (rs := [15]) (by kernel_rfl) (by simp) ?_
   refine AllReadyH.cons (o := ⟨some 39, _, _, _, _, _⟩) rfl (fun K hK => ?_) AllReadyH.nil
   go_simp
   go_at_call 24; refine (HRE.out _ (HRC.out.below R3)).mono ?_; rintro e wD ⟨vD, rfl, hoD, bwD⟩; have R4 := bt_ R3 bwD; have hoC2 := own_below hoC bwD; obtain ⟨p6, c6, e6, -⟩ := a0i hoD; subst e6
   refine hK.out _ _ (by (try dsimp only); exact ⟨cell_below d1 R4, cell_below q0 R4, cell_below q1 R4⟩) ?_
   clear hK K hHeld
   intro hHeld
   try simp only [Act.put, tka, tk0, tkS]
   refine wpAnyH_ready (rs := [16]) (by kernel_rfl) (by simp) ?_
   refine AllReadyH.cons (o := ⟨some 40, _, _, _, _, _⟩) rfl (fun K hK => ?_) AllReadyH.nil
   go_simp
   go_at_call 22; refine (HSM2.out _ _ _ _ _ hoC2 hoD).mono ?_; rintro e wE ⟨rfl, jE, rfl⟩; have R5 := bd_ R4 jE
   refine hK.out _ _ (by (try dsimp only); exact ⟨cell_below d1 R5, cell_below q0 R5, cell_below q1 R5⟩) ?_
   clear hK K hHeld
   intro hHeld
   try simp only [Act.put, tka, tk0, tkS]
   refine tk1 17 41 rfl ?_
   simp only [Act.put, tka, tk0, tkS]
   refine tk1 18 4 rfl ?_
   simp only [Act.put, tka, tk0, tkS]
   refine wpAnyH_done (by kernel_rfl) ?_ _
   go_wp2_with fail
   go_ret
   exact ⟨rfl, bt_ HBX.out R5⟩
  ·have hcb : (ca == 0) = false := beq_eq_false_iff_ne.2 hc
   clear hc HPC
   have HON1 := h_ hone
   obtain ⟨S1, S2, S3⟩ := o0l w1 (.cells #[.string ⟨#[]⟩, .slice none 0 0, .slice none 0 0, .bool false, .int .i64 0, .int .i64 0, .int .i64 0, .int .u64 0, .int .u64 0, .slice none 0 0, .slice none 0 0, .slice none 0 0, .slice none 0 0, .slice none 0 0, .slice none 0 0, .int .i64 0] 38) (.cells #[.int .i64 0, .int .i64 0] 41) 38 41 _ _ (srcC x v1).toArray #[.int .i64 (ca), .int .i64 (cb)] rfl rfl
   have HB1 := h_ (bt_ (bt_ HB0.out hb) S3)
   have HG1 := h_ (hG.below S3)
   have HT1 := h_ (hT.below S3)
   have HS1 := h_ S1
   have HP1 := h_ S2
   have l1a := S1.lt
   have l1b := S2.lt
   have hi1 := h_ (show (Tryz.prog.info? 38).map (·.size) = some (srcC x v1).toArray.size by kernel_rfl)
   have hz1 := h_ (show (srcC x v1).toArray.size = 16 from rfl)
   clear hone hG hT hb S1 S2 S3 HB0 
   have p0 : ((((w1.alloc (.cells #[.string ⟨#[]⟩, .slice none 0 0, .slice none 0 0, .bool false, .int .i64 0, .int .i64 0, .int .i64 0, .int .u64 0, .int .u64 0, .slice none 0 0, .slice none 0 0, .slice none 0 0, .slice none 0 0, .slice none 0 0, .slice none 0 0, .int .i64 0] 38)).alloc (.cells #[.int .i64 0, .int .i64 0] 41)).setRow w1.heap.size (srcC x v1).toArray).setRow (w1.heap.size + 1) #[.int .i64 (ca), .int .i64 (cb)]).cell? ⟨w1.heap.size + 1, 0, none⟩ = some (.int .i64 ca) := HP1.out.cell 0
   go_wp2_with (first | (refine wpList_store_row rfl 38 (.tmp 5) (.tmp 16) rfl w1.heap.size (srcC x v1).toArray rfl rfl 38 _ (heap_alloc2_old w1 _ _) hi1.out (by rw [hz1.out]; rfl) HON1.out ?_) | (refine wpList_store_row rfl 41 (.tmp 6) (.tmp 17) rfl (w1.heap.size + 1) #[.int .i64 (ca), .int .i64 (cb)] rfl rfl 41 _ ((setRow_other _ _ _ _ (by omega)).trans (heap_alloc2_new w1 _ _)) (by kernel_rfl) rfl (by kernel_rfl) ?_; generalize ((((w1.alloc (.cells #[.string ⟨#[]⟩, .slice none 0 0, .slice none 0 0, .bool false, .int .i64 0, .int .i64 0, .int .i64 0, .int .u64 0, .int .u64 0, .slice none 0 0, .slice none 0 0, .slice none 0 0, .slice none 0 0, .slice none 0 0, .slice none 0 0, .int .i64 0] 38)).alloc (.cells #[.int .i64 0, .int .i64 0] 41)).setRow w1.heap.size (srcC x v1).toArray).setRow (w1.heap.size + 1) #[.int .i64 (ca), .int .i64 (cb)]) = u1 at *; generalize w1.heap.size = g1 at *))
   go_ret
   exact ⟨rfl, HB1.out⟩
theorem lifted (os : Os) (started : os.Started) (H : Type) (enc : TypeId × Value → H) :
  ReturnsInHanded {} Tryz.checked os 6 .any (Rows.properMemorySpec.pre6 enc Tryz.prog Tryz.f6 Rows.properMemoryRow.domain false) (Rows.properMemorySpec.post enc Tryz.prog Tryz.f6 false true false false) := by
 refine returnsInHanded_of_change (C := Tryz.checked) own started (by kernel_rfl) Tryz.func6
  (ChangeSpec.witness6 (enc := enc) (C := Tryz.checked) false ⟨#[], #[.string ByteArray.empty, .int .u64 0], []⟩ 8 (by kernel_rfl) (by kernel_rfl) (by kernel_rfl) (by kernel_rfl)) ?_
 intro W base args ds gs before hval0 hW hcnd _
 have hval : ∀ (j : Nat) t v, Tryz.f6.params[j]? = some t → args[j]? = some v → Value.okWide Tryz.prog W .any base t v := hval0
 have hW' := hW
 obtain ⟨p, q, hA0, hV, rfl, hfz, hnd⟩ := hW
 have hA : DataW.TrodAll enc Tryz.prog W 0 (fun _ => true) true Tryz.f6.params.toList args.toList ds p := hA0
 rw [Tryz.params6] at hA hval
 obtain ⟨v0, vs0, d0, ds0, p0, q0, hargs, rfl, rfl, h0, r0⟩ := trodAll_cons hA
 obtain ⟨v1, vs1, d1, ds1, p1, q1, rfl, rfl, rfl, h1, r1⟩ := trodAll_cons r0
 obtain ⟨rfl, rfl, rfl⟩ := trodAll_nil r1
 obtain rfl : args = #[v0, v1] := by cases args; simp_all
 obtain ⟨rfl, rfl⟩ := trodVars_none hV
 obtain ⟨a0, rfl, rfl, rfl, w0⟩ := open_string Tryz.underlying9 (hval 0 9 v0 rfl rfl) h0
 obtain ⟨a1, rfl, rfl, rfl, w1⟩ := open_int Tryz.underlying26 (hval 1 26 v1 rfl rfl) h1
 clear hA0 hval0
 refine (walk a0 a1 W w0 w1).mono fun e W' ⟨he, bel⟩ => ?_
 subst he
 exact ⟨_, rfl, _, _, _, [], _, [], hW', trodAll_mk1 (shut_bool Tryz.underlying4 _), (trodAll_cons_mk (shut_string Tryz.underlying9 w0) (trodAll_cons_mk (shut_int Tryz.underlying26 w1) trodAll_mk0)), rfl, bel.frame _, fun h => by cases h⟩
theorem over : Rows.properMemoryRow.holds Tryz.pinned (OpenSpec.ofChange Rows.properMemorySpec) :=
 OpenClaim.holds_of_wide 6 Tryz.f6 rfl rfl rfl rfl rfl rfl rfl ⟨rfl, rfl, rfl, rfl, rfl⟩ rfl rfl rfl rfl rfl (by kernel_rfl) Tryz.func6 (by kernel_rfl)
  (of_decide_eq_true (by kernel_rfl)) (by unfold Func.isWrapper; first | (rw [if_pos (by decide +kernel)]; kernel_rfl) | (rw [if_neg (by decide +kernel)]; exact ⟨rfl, rfl⟩))
  (fun os started H enc _ => lifted os started H enc)
theorem proved : Rows.ProperMemorySaid := over
#print axioms proved
end Go.Proofs.YtmnojnopejhebaaGreat.properMemory
