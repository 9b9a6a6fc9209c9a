/- Any condition that may be has the text that the page says, and is read from it. -/
import Derived.Test.YteepoohcdmjmhaaRows
import Derived.Test.YteepoohcdmjmhaaBase
import Derived.ShutString
import Derived.ChangeOld
import Derived.Lib.SmallJoins
import Derived.Test.YteepoohcdmjmhaaCondAwake
import Derived.Test.YteepoohcdmjmhaaCondRightW
import Derived.Test.YteepoohcdmjmhaaCondOpen
import Derived.Test.YteepoohcdmjmhaaCondBack
namespace Go.Proofs.Yteepoohcdmjmhaa.condPrints
open Go.ChangeShapes Go.WideShapes Go.ChangeAt Go.RowKit
open Go.ChangeMaps (open_string shut_string)
set_option linter.unusedVariables false
set_option linter.unusedSimpArgs false

theorem own : ownKnob Try.prog.godebug = none := by kernel_rfl
theorem laidOut : laidOutB Try.prog = true := by kernel_rfl

theorem tk_sizes (s : ByteArray) (K : List (Nat × Nat × Nat)) (hs : s.size ≤ 1048576) : ∀ t ∈ tkOf s 0 K, t.2.1.size ≤ 1048576 := by
  intro t ht
  obtain ⟨r, _, rfl⟩ := List.mem_map.1 ht
  show (s.extract r.2.1 r.2.2).size ≤ 1048576
  simp
  omega
set_option maxRecDepth 100000 in
set_option maxHeartbeats 6400000 in
theorem walk (t : CT) (cs : List Value) (w : World) (ht : CT.At w (fun _ => True) t cs) :
    Calls Try.prog 3 #[.agg cs.toArray] w fun e w' => e = .returned (.bool true) ∧ Below w.heap.size w w' := by
  have H0 := Lib.hid ht
  have HFI := Lib.hid (CT.At.fits t cs ht)
  obtain ⟨k, c, r, a, v, args, rfl⟩ : ∃ k c r a v args, t = CT.mk k c r a v args := by obtain ⟨k, c, r, a, v, args⟩ := t; exact ⟨k, c, r, a, v, args, rfl⟩
  obtain ⟨p, cap, rfl, _⟩ := ht.own
  generalize args.length = ln at *
  have HB := Lib.hid (show Below w.heap.size w (w.alloc (.cells #[.int .i64 k, .int .i64 c, .int .i64 r, .int .u64 (a : Nat), .int .u64 (v : Nat), .slice p ln cap] 25)) from below_alloc (Below.refl _ _) _)
  have HN := Lib.hid (own_box w #[.int .i64 k, .int .i64 c, .int .i64 r, .int .u64 (a : Nat), .int .u64 (v : Nat), .slice p ln cap])
  clear ht
  generalize CT.mk k c r a v args = t at *
  go_enter Try.func3, Try.ntmps3
  go_wp2_with fail
  refine (cawake_any _).mono ?_
  rintro e w2 ⟨rfl, hb⟩
  have HB2 := Lib.hid (below_trans HB.out hb)
  have HN2 := Lib.hid (HN.out.below hb)
  clear hb HB HN
  obtain ⟨n0, n1, n2, n3, n4, n5⟩ := blk_cells6' HN2.out
  have HC := Lib.hid (csmall_any t 9 9 w2 _ _ rfl (by decide) (H0.out.below HB2.out))
  go_wp2_with fail
  refine (HC.out).mono ?_
  rintro e w4 ⟨rfl, hb⟩
  have HB4 := Lib.hid (below_trans HB2.out hb)
  have HN4 := Lib.hid (HN2.out.below hb)
  clear hb HC HB2 HN2 n0 n1 n2 n3 n4 n5
  obtain ⟨n0, n1, n2, n3, n4, n5⟩ := blk_cells6' HN4.out
  cases hsm : smallT 9 t
  · go_wp2_with fail
    go_ret
    exact ⟨rfl, HB4.out⟩
  have hc := Lib.hid (show countT t ≤ 1000000000 from Nat.le_trans (small_count 9 t hsm) (by decide))
  have HC := Lib.hid (RRight_any 4 t w4 _ _ hc.out (H0.out.below HB4.out))
  go_wp2_with fail
  refine (HC.out).mono ?_
  rintro e w5 ⟨rfl, hb⟩
  have HB5 := Lib.hid (below_trans HB4.out hb)
  have HN5 := Lib.hid (HN4.out.below hb)
  clear hb HC HB4 HN4 n0 n1 n2 n3 n4 n5
  obtain ⟨n0, n1, n2, n3, n4, n5⟩ := blk_cells6' HN5.out
  by_cases hr0 : RightT 4 t = 0
  case neg =>
    have hne : (RightT 4 t != 0) = true := by rw [bne_iff_ne]; exact hr0
    generalize RightT 4 t = RR at *
    go_wp2_with fail
    go_ret
    exact ⟨rfl, HB5.out⟩
  have hc64 : countT t ≤ 64 := by
    unfold RightT at hr0
    split at hr0
    · cases hr0
    · omega
  have hrt : rightT 4 t = 0 := by
    unfold RightT at hr0
    rwa [if_neg (by omega)] at hr0
  rw [hr0]
  have HRT := Lib.hid (rt_of t HFI.out hrt)
  have HRG := Lib.hid hrt
  have HC := Lib.hid (print_any t w5 _ _ (by omega) (H0.out.below HB5.out))
  clear hr0 hrt
  go_wp2_with fail
  refine (HC.out).mono ?_
  rintro e w6 ⟨rfl, hb⟩
  have HB6 := Lib.hid (below_trans HB5.out hb)
  have HN6 := Lib.hid (HN5.out.below hb)
  clear hb HC HB5 HN5 n0 n1 n2 n3 n4 n5
  obtain ⟨n0, n1, n2, n3, n4, n5⟩ := blk_cells6' HN6.out
  have HC := Lib.hid (rprint_any t 4 w6 _ _ (by omega) HRG.out (H0.out.below HB6.out))
  go_wp2_with fail
  refine (HC.out).mono ?_
  rintro e w7 ⟨rfl, hb⟩
  have HB7 := Lib.hid (below_trans HB6.out hb)
  have HN7 := Lib.hid (HN6.out.below hb)
  clear hb HC HB6 HN6 n0 n1 n2 n3 n4 n5
  obtain ⟨KS, hk, hpc⟩ := back_all HRT.out hc64
  have hsz0 : (ba (printT t)).size ≤ 19200 := by rw [ba_size]; have := print_len t HFI.out; omega
  have hkl : KS.length ≤ 19201 := by have := toks_len _ (ba (printT t)) 0 [] rfl; rw [hk] at this; simp at this; omega
  have HK := Lib.hid hk
  have HPC := Lib.hid hpc
  have HSM := Lib.hid (same_norm HRT.out)
  clear hk hpc
  generalize hS : ba (printT t) = SS at *
  clear hS
  go_wp2_with fail
  refine (tokens_any SS 0 _ (by omega) (by decide)).mono ?_
  rintro e w8 ⟨v8, rfl, ho, hb⟩
  unfold toksAt
  rw [HK.out] at ho ⊢
  obtain ⟨tp, tc, rfl, hr, hp⟩ := own_slice (show w8.ownsRow w7.heap.size 63 3 v8 KS.length (tokCells SS 0 KS) from ho)
  have HB8 := Lib.hid (below_trans HB7.out hb)
  have HN8 := Lib.hid (HN7.out.below hb)
  have hlen : (tkOf SS 0 KS).length = KS.length := by simp [tkOf]
  have HR8 := Lib.hid (show Rds w8 3 tp KS.length (tkL (tkOf SS 0 KS)) from by rw [tkOf_cells]; exact hr)
  have HP8 := Lib.hid hp
  have HSZ := Lib.hid (tk_sizes SS KS (by omega))
  clear ho hb hr hp HB7 HN7
  have HBA := Lib.hid (show Below w8.heap.size w8 (w8.alloc (.cells #[.int .i64 0, .int .i64 0] 33)) from below_alloc (Below.refl _ _) _)
  have HNA := Lib.hid (show Blk (w8.alloc (.cells #[.int .i64 0, .int .i64 0] 33)) 33 w8.heap.size [.int .i64 0, .int .i64 0] from Blk.new _ _ _)
  have HC := Lib.hid (read_any (c := tc) (tk := tkOf SS 0 KS) _ (HR8.out.below HBA.out) hlen (fun a ha => by have := HP8.out a ha; simp; omega) (by omega) HSZ.out)
  generalize hTK : tkOf SS 0 KS = TK at *
  generalize hKL : KS.length = KL at *
  clear hKL
  go_wp2_with fail
  refine (HC.out).mono ?_
  rintro e w9 ⟨rfl, hr, hb⟩
  have hsz : w8.heap.size + 1 ≤ w9.heap.size := by have := hb.size; simp at this; omega
  have hwl : w.heap.size < w8.heap.size := HN8.out.lt
  have HB9 := Lib.hid (below_trans (below_trans HB8.out HBA.out) hb)
  have HN9 := Lib.hid ((HN8.out.below HBA.out).below hb)
  have HM9 := Lib.hid (HNA.out.below hb)
  have HPL := Lib.hid (fun a (ha : tp = some a) => show a.block < w9.heap.size by have := HP8.out a ha; omega)
  have HC := Lib.hid (cparse_any w9 hr HPL.out)
  have hrs : (w8.alloc (.cells #[.int .i64 0, .int .i64 0] 33)).heap.size = w8.heap.size + 1 := by simp
  rw [hrs] at HC ⊢
  clear hr hb HNA HBA HR8 HB8 HN8
  obtain ⟨s9, hpc, hs9⟩ := HPC.out
  rw [hpc] at HC
  clear HPC hpc
  go_wp2_with fail
  refine (HC.out).mono ?_
  rintro e w10 ⟨cs, rfl, ht, hr, hg⟩
  have HT := Lib.hid ht
  obtain ⟨k1, co1, rg1, ad1, va1, p1, l1, cp1, rfl⟩ := ht.cells
  have hsz3 : w8.heap.size + 1 < w10.heap.size := hr.lt
  have HN10 := Lib.hid (HN9.out.kept hg (by intro e; injection e; omega))
  have HM10 := Lib.hid (HM9.out.kept hg (by intro e; injection e; omega))
  have HB10 := Lib.hid (show Below w.heap.size w w10 from HB9.out.grown hg (by omega) (fun k hk => by injection hk; omega))
  have HR10 := Lib.hid hr
  clear ht hr hg HC HN9 HM9 HB9
  have HBA := Lib.hid (show Below w10.heap.size w10 (w10.alloc (.cells #[.int .i64 k1, .int .i64 co1, .int .i64 rg1, .int .u64 ad1, .int .u64 va1, .slice p1 l1 cp1] 25)) from below_alloc (Below.refl _ _) _)
  have HNA := Lib.hid (own_box w10 #[.int .i64 k1, .int .i64 co1, .int .i64 rg1, .int .u64 ad1, .int .u64 va1, .slice p1 l1 cp1])
  have HTA := Lib.hid (HT.out.below HBA.out)
  have HRA := Lib.hid (rbad_any _ (HR10.out.below HBA.out))
  have hcode : w10.cell? ⟨w8.heap.size, 0, none⟩ = some (.int .i64 0) := HM10.out.cell 0
  have hlt1 : w8.heap.size < w10.heap.size := by omega
  have hpf := fun (a b : Int) (w : World) => (show (Instr.field 33 (.agg #[.int .i64 a, .int .i64 b]) 0).run Try.prog w = .ok (.int .i64 a) w by kernel_rfl)
  rw [hs9] at HRA
  have hpf0 := hpf 0 s9.at_
  clear hpf hs9 HT
  go_wp2_with fail
  refine (HRA.out).mono ?_
  rintro e w11 ⟨rfl, hb⟩
  have HB11 := Lib.hid (below_trans (below_trans HB10.out HBA.out) hb)
  have HN11 := Lib.hid ((HN10.out.below HBA.out).below hb)
  have HD11 := Lib.hid (HNA.out.below hb)
  have HT11 := Lib.hid (HTA.out.below hb)
  have hlt5 : w10.heap.size < w11.heap.size := by have := hb.size; simp at this; omega
  clear hb HRA HNA HTA HBA HR10 HB10 HN10 HM10 hcode
  obtain ⟨n0, n1, n2, n3, n4, n5⟩ := blk_cells6' HN11.out
  have HC := Lib.hid (clean_any t w11 _ _ (H0.out.below HB11.out))
  go_wp2_with fail
  refine (HC.out).mono ?_
  rintro e w12 ⟨rfl, hb⟩
  have HB12 := Lib.hid (below_trans HB11.out hb)
  have HN12 := Lib.hid (HN11.out.below hb)
  have HD12 := Lib.hid (HD11.out.below hb)
  have HT12 := Lib.hid (HT11.out.below hb)
  clear hb HC HB11 HN11 HD11 HT11 n0 n1 n2 n3 n4 n5
  obtain ⟨n0, n1, n2, n3, n4, n5⟩ := blk_cells6' HN12.out
  obtain ⟨d0, d1, d2, d3, d4, d5⟩ := blk_cells6' HD12.out
  cases hcl : cleanT t
  · go_wp2_with fail
    go_ret
    exact ⟨rfl, HB12.out⟩
  have HC := Lib.hid (same_any t (normT t) w12 _ _ _ _ (H0.out.below HB12.out) HT12.out)
  rw [HSM.out hcl] at HC
  go_wp2_with fail
  refine (HC.out).mono ?_
  rintro e w13 ⟨rfl, hb⟩
  have HB13 := Lib.hid (below_trans HB12.out hb)
  clear hb HC
  go_wp2_with fail
  go_ret
  exact ⟨rfl, HB13.out⟩

set_option maxRecDepth 100000 in
theorem lifted (os : Os) (started : os.Started) (H : Type) (enc : TypeId × Value → H) :
    ReturnsInHanded {} Try.checked os 3 .any (Rows.condPrintsSpec.pre6 enc Try.prog Try.f3 Rows.condPrintsRow.domain false) (Rows.condPrintsSpec.post enc Try.prog Try.f3 false true false false) := by
  refine returnsInHanded_of_change (C := Try.checked) own started (by kernel_rfl) Try.func3
    (ChangeSpec.witness6 (enc := enc) (C := Try.checked) false ⟨#[], #[.agg #[.int .i64 0, .int .i64 0, .int .i64 0, .int .u64 0, .int .u64 0, .slice none 0 0]], []⟩ 8 (by kernel_rfl) (by kernel_rfl) (by kernel_rfl) (by kernel_rfl)) ?_
  intro W base args ds gs before hval0 hW hcnd _
  have hval : ∀ (j : Nat) t v, Try.f3.params[j]? = some t → args[j]? = some v → Value.okWide Try.prog W .any base t v := hval0
  have hW' := hW
  obtain ⟨p, q, hA0, hV, rfl, hfz, hnd⟩ := hW
  have hA : DataW.TrodAll enc Try.prog W 0 (fun _ => true) true Try.f3.params.toList args.toList ds p := hA0
  rw [Try.params3] at hA hval
  obtain ⟨v0, vs0, d0, ds0, p0, q0, hargs, rfl, rfl, h0, r0⟩ := trodAll_cons hA
  obtain ⟨rfl, rfl, rfl⟩ := trodAll_nil r0
  obtain rfl : args = #[v0] := by cases args; simp_all
  obtain ⟨rfl, rfl⟩ := trodVars_none hV
  have k0 := h0
  have lt0 : ∀ x ∈ p0, x.block < W.heap.size := by obtain ⟨m, hm⟩ := k0; exact DataW.trod_lt m _ _ _ hm
  obtain ⟨t0, cs0, rfl, ht0⟩ := open_cond (hval 0 25 v0 rfl rfl) h0
  clear hA0 hval0
  refine (walk t0 cs0 W ht0).mono fun e W' ⟨he, bel⟩ => ?_
  subst he
  exact ⟨_, rfl, _, _, _, [], _, [], hW', trodAll_mk1 (shut_bool Try.underlying4 _), (trodAll_cons_mk (Below.trod laidOut (by kernel_rfl) (of_decide_eq_true (by kernel_rfl)) k0 bel lt0) trodAll_mk0), rfl, bel.frame _, fun h => by cases h⟩

theorem over : Rows.condPrintsRow.holds Try.pinned (OpenSpec.ofChange Rows.condPrintsSpec) :=
  OpenClaim.holds_of_wide 3 Try.f3 rfl rfl rfl rfl rfl rfl rfl ⟨rfl, rfl, rfl, rfl, rfl⟩ rfl rfl rfl rfl rfl (by kernel_rfl) Try.func3 (by kernel_rfl)
    (of_decide_eq_true (by kernel_rfl)) (by unfold Func.isWrapper; first | (rw [if_pos (by decide +kernel)]; kernel_rfl) | (rw [if_neg (by decide +kernel)]; exact ⟨rfl, rfl⟩))
    (fun os started H enc _ => lifted os started H enc)

theorem proved : Rows.CondPrintsSaid := over
#print axioms proved
end Go.Proofs.Yteepoohcdmjmhaa.condPrints
