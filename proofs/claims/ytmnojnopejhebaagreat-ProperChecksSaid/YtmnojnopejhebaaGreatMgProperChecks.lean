/- Any test may be, or is refused for its first fault, at its place, and has so many events: the program and the document say the same. -/
import Derived.Test.YtmnojnopejhebaaGreatMgaa
import Derived.Test.YtmnojnopejhebaaGreatMgbi
import Derived.Test.YtmnojnopejhebaaGreatMgbl
import Derived.Test.YtmnojnopejhebaaGreatMgbm
import Derived.Test.YtmnojnopejhebaaGreatRows
import Derived.ShutString
import Derived.ChangeOld
import Derived.Lib.SmallJoins
namespace Go.Proofs.YtmnojnopejhebaaGreat.properChecks
open Go.ChangeShapes Go.WideShapes Go.ChangeAt Go.RowKit
open Go.ChangeMaps (open_string shut_string)
set_option maxRecDepth 100000
set_option maxHeartbeats 25600000
set_option linter.unusedVariables false
set_option linter.unusedSimpArgs false
theorem own : ownKnob Tryz.prog.godebug = none := by kernel_rfl
theorem laidOut : laidOutB Tryz.prog = true := by kernel_rfl
theorem walk (x : GSrc) (v : SrcV) (tv : Value) (w : World) (h : GOp w x v) (ht : tv = v.vT) :
  Calls Tryz.prog 5 #[.agg #[.string x.name, v.vC, v.vCo, .bool x.fa, v.k0, v.k1, v.k2, v.k3, v.k4, v.k5], tv, .agg #[v.vPT, v.vPC, v.vPCo, v.vPI, .int .i64 x.pCond]] w fun e w' => e = .returned (.bool true) ∧ Below w.heap.size w w' := by
 subst ht
 obtain ⟨pT, cT, eT, -, -⟩ := h.tables
 obtain ⟨pA, cA, eA, -, -⟩ := h.pT
 obtain ⟨pB, cB, eB, -, -⟩ := h.pC
 obtain ⟨pC, cC, eC, -, -⟩ := h.pCo
 obtain ⟨pD, cD, eD, -, -⟩ := h.pI
 have HB1 := h_ (show Below w.heap.size w ((w.alloc (.cells #[.string x.name, v.vC, v.vCo, .bool x.fa, v.k0, v.k1, v.k2, v.k3, v.k4, v.k5] 31)).alloc (.cells #[v.vPT, v.vPC, v.vPCo, v.vPI, .int .i64 x.pCond] 36)) from bl_ (bl_ (Below.refl _ _) _) _)
 have HM := h_ (show Blk ((w.alloc (.cells #[.string x.name, v.vC, v.vCo, .bool x.fa, v.k0, v.k1, v.k2, v.k3, v.k4, v.k5] 31)).alloc (.cells #[v.vPT, v.vPC, v.vPCo, v.vPI, .int .i64 x.pCond] 36)) 31 w.heap.size [.string x.name, v.vC, v.vCo, .bool x.fa, v.k0, v.k1, v.k2, v.k3, v.k4, v.k5] from (Blk.new w _ _).alloc _)
 have HP := h_ (show Blk ((w.alloc (.cells #[.string x.name, v.vC, v.vCo, .bool x.fa, v.k0, v.k1, v.k2, v.k3, v.k4, v.k5] 31)).alloc (.cells #[v.vPT, v.vPC, v.vPCo, v.vPI, .int .i64 x.pCond] 36)) 36 (w.heap.size + 1) [v.vPT, v.vPC, v.vPCo, v.vPI, .int .i64 x.pCond] from by simpa using Blk.new (w.alloc (.cells #[.string x.name, v.vC, v.vCo, .bool x.fa, v.k0, v.k1, v.k2, v.k3, v.k4, v.k5] 31)) 36 [v.vPT, v.vPC, v.vPCo, v.vPI, .int .i64 x.pCond])
 have HO := h_ (h.below HB1.out)
 skip
 have HF := h_ (fun (W : World) (g : GOp W x v) => n1w W g)
 have HCH := h_ (fun (W : World) (g : GRd W x v) => show Calls Tryz.prog 15 #[.agg #[.string x.name, v.vC, v.vCo, .bool x.fa, v.k0, v.k1, v.k2, v.k3, v.k4, v.k5, v.vT, v.vPT, v.vPC, v.vPCo, v.vPI, .int .i64 x.pCond]] W (fun e w' => e = .returned (.agg #[.int .i64 (b0y x).1, .int .i64 (b0y x).2]) ∧ Below W.heap.size W w') from q0n W g)
 have HCR := h_ (fun (W : World) (g : GRd W x v) => z0k W g)
 have HE1 := h_ (fun (W : World) (g : GRd W x v) => m0v W g)
 have HE2 := h_ (fun (W : World) (g : GRd W x v) => o0x W g)
 have HGD := h_ (fun (W : World) (g : GOp W x v) (f : FewT x) (t : x.tables.length ≤ 50) => g.grd f t)
 simp only [eT, eA, eB, eC, eD] at HB1 HM HP HO HCH HCR ⊢
 clear h eT eA eB eC eD
 generalize (b0y x).1 = ca at *
 generalize (b0y x).2 = cb at *
 go_enter Tryz.func5, Tryz.ntmps5
 go_wp2_with fail
 refine (z0p _).mono ?_
 rintro e w2 ⟨rfl, hb⟩
 have HB2 := h_ (bt_ HB1.out hb)
 have HM2 := h_ (HM.out.below hb)
 have HP2 := h_ (HP.out.below hb)
 have HO2 := h_ (HO.out.below hb)
 clear hb HB1 HM HP HO
 have m0 := HM2.out.cell 0
 have m1 := HM2.out.cell 1
 have m2 := HM2.out.cell 2
 have m3 := HM2.out.cell 3
 have m4 := HM2.out.cell 4
 have m5 := HM2.out.cell 5
 have m6 := HM2.out.cell 6
 have m7 := HM2.out.cell 7
 have m8 := HM2.out.cell 8
 have m9 := HM2.out.cell 9
 have ml := HM2.out.lt
 simp only [gz_, gs_] at m0 m1 m2 m3 m4 m5 m6 m7 m8 m9
 go_wp2_with fail
 refine (HF.out _ HO2.out).mono ?_
 rintro e w3 ⟨b, rfl, hfw, hb⟩
 have HB3 := h_ (bt_ HB2.out hb)
 have HM3 := h_ (HM2.out.below hb)
 have HP3 := h_ (HP2.out.below hb)
 have HO3 := h_ (HO2.out.below hb)
 clear hb HB2 HM2 HP2 HO2 HF
 clear m0 m1 m2 m3 m4 m5 m6 m7 m8 m9 ml
 cases b with
 | false =>
  go_wp2_with fail
  go_ret
  exact ⟨rfl, HB3.out⟩
 | true =>
  have HFW := h_ (hfw rfl)
  clear hfw
  by_cases h50 : 50 < x.tables.length
  ·have h50' : (50 : Int) < x.tables.length := by omega
   clear h50
   go_wp2_with fail
   go_ret
   exact ⟨rfl, HB3.out⟩
  have h50' : (x.tables.length : Int) ≤ 50 := by omega
  have HG3 := h_ (HGD.out w3 HO3.out HFW.out (by omega))
  clear h50 HGD HO3 HFW
  have m0 := HM3.out.cell 0
  have m1 := HM3.out.cell 1
  have m2 := HM3.out.cell 2
  have m3 := HM3.out.cell 3
  have m4 := HM3.out.cell 4
  have m5 := HM3.out.cell 5
  have m6 := HM3.out.cell 6
  have m7 := HM3.out.cell 7
  have m8 := HM3.out.cell 8
  have m9 := HM3.out.cell 9
  have ml := HM3.out.lt
  simp only [gz_, gs_] at m0 m1 m2 m3 m4 m5 m6 m7 m8 m9
  have q0 := HP3.out.cell 0
  have q1 := HP3.out.cell 1
  have q2 := HP3.out.cell 2
  have q3 := HP3.out.cell 3
  have q4 := HP3.out.cell 4
  have ql := HP3.out.lt
  simp only [gz_, gs_] at q0 q1 q2 q3 q4
  go_wp2_with fail
  refine (HCH.out _ HG3.out).mono ?_
  rintro e w4 ⟨rfl, hb⟩
  have HN := h_ (Blk.new w4 41 [.int .i64 ca, .int .i64 cb])
  have hb2 := bl_ hb (.cells #[.int .i64 ca, .int .i64 cb] 41)
  have HB4 := h_ (bt_ HB3.out hb2)
  have HM4 := h_ (HM3.out.below hb2)
  have HP4 := h_ (HP3.out.below hb2)
  have HG4 := h_ (HG3.out.below hb2)
  clear hb hb2 HB3 HM3 HP3 HG3 HCH
  clear m0 m1 m2 m3 m4 m5 m6 m7 m8 m9 ml
  clear q0 q1 q2 q3 q4 ql
  have m0 := HM4.out.cell 0
  have m1 := HM4.out.cell 1
  have m2 := HM4.out.cell 2
  have m3 := HM4.out.cell 3
  have m4 := HM4.out.cell 4
  have m5 := HM4.out.cell 5
  have m6 := HM4.out.cell 6
  have m7 := HM4.out.cell 7
  have m8 := HM4.out.cell 8
  have m9 := HM4.out.cell 9
  have ml := HM4.out.lt
  simp only [gz_, gs_] at m0 m1 m2 m3 m4 m5 m6 m7 m8 m9
  have q0 := HP4.out.cell 0
  have q1 := HP4.out.cell 1
  have q2 := HP4.out.cell 2
  have q3 := HP4.out.cell 3
  have q4 := HP4.out.cell 4
  have ql := HP4.out.lt
  simp only [gz_, gs_] at q0 q1 q2 q3 q4
  go_wp2_with fail
  refine (HCR.out _ HG4.out).mono ?_
  rintro e w5 ⟨rfl, hb⟩
  have HB5 := h_ (bt_ HB4.out hb)
  have HM5 := h_ (HM4.out.below hb)
  have HG7 := h_ (HG4.out.below hb)
  have HN5 := h_ (HN.out.below hb)
  clear hb HB4 HM4 HP4 HG4 HCR HN
  clear m0 m1 m2 m3 m4 m5 m6 m7 m8 m9 ml
  clear q0 q1 q2 q3 q4 ql
  go_wp2_with fail
  generalize w4.heap.size = h7 at *
  generalize w5 = W7 at *
  have m0 := HM5.out.cell 0
  have m1 := HM5.out.cell 1
  have m2 := HM5.out.cell 2
  have m3 := HM5.out.cell 3
  have m4 := HM5.out.cell 4
  have m5 := HM5.out.cell 5
  have m6 := HM5.out.cell 6
  have m7 := HM5.out.cell 7
  have m8 := HM5.out.cell 8
  have m9 := HM5.out.cell 9
  have ml := HM5.out.lt
  simp only [gz_, gs_] at m0 m1 m2 m3 m4 m5 m6 m7 m8 m9
  have q0 := HN5.out.cell 0
  have q1 := HN5.out.cell 1
  have ql := HN5.out.lt
  simp only [gz_, gs_] at q0 q1
  generalize b0m x.cores.length x.cores = EV at *
  refine wp_region_held_drew (S := (fun w' => w'.cell? ⟨h7, 0, none⟩ = some (.int .i64 ca) ∧ w'.cell? ⟨h7, 1, none⟩ = some (.int .i64 cb) ∧ w'.cell? ⟨w.heap.size, 0, none⟩ = some (.string x.name) ∧ w'.cell? ⟨w.heap.size, 1, none⟩ = some (v.vC) ∧ w'.cell? ⟨w.heap.size, 2, none⟩ = some (v.vCo) ∧ w'.cell? ⟨w.heap.size, 3, none⟩ = some (.bool x.fa) ∧ w'.cell? ⟨w.heap.size, 4, none⟩ = some (v.k0) ∧ w'.cell? ⟨w.heap.size, 5, none⟩ = some (v.k1) ∧ w'.cell? ⟨w.heap.size, 6, none⟩ = some (v.k2) ∧ w'.cell? ⟨w.heap.size, 7, none⟩ = some (v.k3) ∧ w'.cell? ⟨w.heap.size, 8, none⟩ = some (v.k4) ∧ w'.cell? ⟨w.heap.size, 9, none⟩ = some (v.k5))) (by kernel_rfl) (by (try dsimp only); exact ⟨q0, q1, m0, m1, m2, m3, m4, m5, m6, m7, m8, m9⟩) (fun hHeld => ?_)
  refine tk1 0 42 rfl ?_
  simp only [Act.put, tka, tk0, tkS]
  refine tk1 1 43 rfl ?_
  simp only [Act.put, tka, tk0, tkS]
  refine tk1 2 44 rfl ?_
  simp only [Act.put, tka, tk0, tkS]
  refine tk1 3 45 rfl ?_
  simp only [Act.put, tka, tk0, tkS]
  refine tk1 4 46 rfl ?_
  simp only [Act.put, tka, tk0, tkS]
  refine tk1 5 47 rfl ?_
  simp only [Act.put, tka, tk0, tkS]
  refine tk1 6 48 rfl ?_
  simp only [Act.put, tka, tk0, tkS]
  refine tk1 7 49 rfl ?_
  simp only [Act.put, tka, tk0, tkS]
  refine tk1 8 50 rfl ?_
  simp only [Act.put, tka, tk0, tkS]
  refine tk1 9 51 rfl ?_
  simp only [Act.put, tka, tk0, tkS]
  refine tk1 10 52 rfl ?_
  simp only [Act.put, tka, tk0, tkS]
  refine tk1 11 53 rfl ?_
  simp only [Act.put, tka, tk0, tkS]
  refine tk1 13 55 rfl ?_
  simp only [Act.put, tka, tk0, tkS]
  refine wpAnyH_ready (rs := [12]) (by kernel_rfl) (by simp) ?_
  refine AllReadyH.cons (o := ⟨some 54, _, _, _, _, _⟩) rfl (fun K hK => ?_) AllReadyH.nil
  go_simp
  go_at_call 17; refine (HE1.out _ (HG7.out.below (Below.refl _ _).drew)).mono ?_; rintro e wA ⟨rfl, bwA⟩; have R1 := bt_ ((Below.refl W7.heap.size W7).drew) bwA
  refine hK.out _ _ (by (try dsimp only); exact ⟨cell_below q0 R1, cell_below q1 R1, cell_below m0 R1, cell_below m1 R1, cell_below m2 R1, cell_below m3 R1, cell_below m4 R1, cell_below m5 R1, cell_below m6 R1, cell_below m7 R1, cell_below m8 R1, cell_below m9 R1⟩) ?_
  clear hK K hHeld
  intro hHeld
  try simp only [Act.put, tka, tk0, tkS]
  refine wpAnyH_ready (rs := [14]) (by kernel_rfl) (by simp) ?_
  refine AllReadyH.cons (o := ⟨some 56, _, _, _, _, _⟩) rfl (fun K hK => ?_) AllReadyH.nil
  go_simp
  go_at_call 18; refine (HE2.out _ (HG7.out.below R1)).mono ?_; rintro e wB ⟨rfl, bwB⟩; have R2 := bt_ R1 bwB
  refine hK.out _ _ (by (try dsimp only); exact ⟨cell_below q0 R2, cell_below q1 R2, cell_below m0 R2, cell_below m1 R2, cell_below m2 R2, cell_below m3 R2, cell_below m4 R2, cell_below m5 R2, cell_below m6 R2, cell_below m7 R2, cell_below m8 R2, cell_below m9 R2⟩) ?_
  clear hK K hHeld
  intro hHeld
  try simp only [Act.put, tka, tk0, tkS]
  refine tk1 15 57 rfl ?_
  simp only [Act.put, tka, tk0, tkS]
  refine tk1 16 58 rfl ?_
  simp only [Act.put, tka, tk0, tkS]
  refine tk1 17 6 rfl ?_
  simp only [Act.put, tka, tk0, tkS]
  refine wpAnyH_done (by kernel_rfl) ?_ _
  go_wp2_with fail
  go_ret
  exact ⟨rfl, bt_ HB5.out R2⟩
theorem lifted (os : Os) (started : os.Started) (H : Type) (enc : TypeId × Value → H) :
  ReturnsInHanded {} Tryz.checked os 5 .any (Rows.properChecksSpec.pre6 enc Tryz.prog Tryz.f5 Rows.properChecksRow.domain false) (Rows.properChecksSpec.post enc Tryz.prog Tryz.f5 false true false false) := by
 refine returnsInHanded_of_change (C := Tryz.checked) own started (by kernel_rfl) Tryz.func5
  (ChangeSpec.witness6 (enc := enc) (C := Tryz.checked) false ⟨#[], #[.agg #[.string ByteArray.empty, .slice none 0 0, .slice none 0 0, .bool false, .int .i64 0, .int .i64 0, .int .i64 0, .int .u64 0, .int .u64 0, .slice none 0 0], .slice none 0 0, .agg #[.slice none 0 0, .slice none 0 0, .slice none 0 0, .slice none 0 0, .int .i64 0]], []⟩ 8 (by kernel_rfl) (by kernel_rfl) (by kernel_rfl) (by kernel_rfl)) ?_
 intro W base args ds gs before hval0 hW hcnd _
 have hval : ∀ (j : Nat) t v, Tryz.f5.params[j]? = some t → args[j]? = some v → Value.okWide Tryz.prog W .any base t v := hval0
 have hW' := hW
 obtain ⟨p, q, hA0, hV, rfl, hfz, hnd⟩ := hW
 have hA : DataW.TrodAll enc Tryz.prog W 0 (fun _ => true) true Tryz.f5.params.toList args.toList ds p := hA0
 rw [Tryz.params5] at hA hval
 obtain ⟨v0, vs0, d0, ds0, p0, q0, hargs, rfl, rfl, h0, r0⟩ := trodAll_cons hA
 obtain ⟨v1, vs1, d1, ds1, p1, q1, rfl, rfl, rfl, h1, r1⟩ := trodAll_cons r0
 obtain ⟨v2, vs2, d2, ds2, p2, q2, rfl, rfl, rfl, h2, r2⟩ := trodAll_cons r1
 obtain ⟨rfl, rfl, rfl⟩ := trodAll_nil r2
 obtain rfl : args = #[v0, v1, v2] := by cases args; simp_all
 obtain ⟨rfl, rfl⟩ := trodVars_none hV
 have k0 := h0
 have lt0 : ∀ x ∈ p0, x.block < W.heap.size := by obtain ⟨m, hm⟩ := k0; exact DataW.trod_lt m _ _ _ hm
 have k1 := h1
 have lt1 : ∀ x ∈ p1, x.block < W.heap.size := by obtain ⟨m, hm⟩ := k1; exact DataW.trod_lt m _ _ _ hm
 have k2 := h2
 have lt2 : ∀ x ∈ p2, x.block < W.heap.size := by obtain ⟨m, hm⟩ := k2; exact DataW.trod_lt m _ _ _ hm
 obtain ⟨cs0, rfl, z0⟩ := okWide_struct Tryz.underlying31 (hval 0 31 v0 rfl rfl)
 obtain ⟨a1, l1, c1, rfl⟩ := okWide_slice Tryz.underlying32 (hval 1 32 v1 rfl rfl)
 obtain ⟨cs2, rfl, z2⟩ := okWide_struct Tryz.underlying36 (hval 2 36 v2 rfl rfl)
 obtain ⟨f0, o0⟩ := e1k h0
 have o1 := x0n h1
 have o2 := x0n h2
 change d0r Tryz.prog W 32 [.slice a1 l1 c1] at o1
 obtain ⟨xx, vv, e0, e1, e2, hG⟩ := z0y o0 (by rw [b1b] at z0; show cs0.toList.length = 10; rw [Array.length_toList]; exact z0) o1 o2 (by rw [u0o] at z2; show cs2.toList.length = 5; rw [Array.length_toList]; exact z2)
 have e0' : cs0 = #[.string xx.name, vv.vC, vv.vCo, .bool xx.fa, vv.k0, vv.k1, vv.k2, vv.k3, vv.k4, vv.k5] := Array.toList_inj.1 e0
 have e2' : cs2 = #[vv.vPT, vv.vPC, vv.vPCo, vv.vPI, .int .i64 xx.pCond] := Array.toList_inj.1 e2
 subst e0' e2'
 injection e1 with e1
 clear hA0 hval0
 refine (walk xx vv (.slice a1 l1 c1) W hG e1).mono fun e W' ⟨he, bel⟩ => ?_
 subst he
 exact ⟨_, rfl, _, _, _, [], _, [], hW', trodAll_mk1 (shut_bool Tryz.underlying4 _), (trodAll_cons_mk (Below.trod laidOut (by kernel_rfl) (of_decide_eq_true (by kernel_rfl)) k0 bel lt0) (trodAll_cons_mk (Below.trod laidOut (by kernel_rfl) (of_decide_eq_true (by kernel_rfl)) k1 bel lt1) (trodAll_cons_mk (Below.trod laidOut (by kernel_rfl) (of_decide_eq_true (by kernel_rfl)) k2 bel lt2) trodAll_mk0))), rfl, bel.frame _, fun h => by cases h⟩
theorem over : Rows.properChecksRow.holds Tryz.pinned (OpenSpec.ofChange Rows.properChecksSpec) :=
 OpenClaim.holds_of_wide 5 Tryz.f5 rfl rfl rfl rfl rfl rfl rfl ⟨rfl, rfl, rfl, rfl, rfl⟩ rfl rfl rfl rfl rfl (by kernel_rfl) Tryz.func5 (by kernel_rfl)
  (of_decide_eq_true (by kernel_rfl)) (by unfold Func.isWrapper; first | (rw [if_pos (by decide +kernel)]; kernel_rfl) | (rw [if_neg (by decide +kernel)]; exact ⟨rfl, rfl⟩))
  (fun os started H enc _ => lifted os started H enc)
theorem proved : Rows.ProperChecksSaid := over
#print axioms proved
end Go.Proofs.YtmnojnopejhebaaGreat.properChecks
