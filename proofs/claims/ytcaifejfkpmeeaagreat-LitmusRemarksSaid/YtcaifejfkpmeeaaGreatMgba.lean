/- The state's function core. -/
import Derived.Test.YtcaifejfkpmeeaaGreatMgax
import Derived.Laws.OwnMore
namespace Go.Proofs.YtcaifejfkpmeeaaGreat
open Go.RowKit
set_option linter.unusedVariables false
set_option linter.unusedSimpArgs false

theorem el_core : El Tryz.prog 25 49 (.agg #[.slice none 0 0, .int .i64 0, .int .u64 0, .slice none 0 0, .slice none 0 0]) 5 88 := ⟨Tryz.underlying25, by kernel_rfl⟩
theorem el_rows : El Tryz.prog 34 33 (.slice none 0 0) 1 24 := ⟨Tryz.underlying34, by kernel_rfl⟩
/-- A core's registers, as they are made. -/
def reg0 : Array Value := ((List.replicate 31 0).map u64V).toArray
theorem reg0_made : madeCells (Value.int .u64 0).cells (31 * 1) = reg0 := by kernel_rfl
theorem reg0_list : reg0.toList = (List.replicate 31 0).map u64V := rfl
theorem mk31 (w : World) : (Instr.makeSlice 32 (.int .i64 31) (.int .i64 31)).run Tryz.prog w = .ok (.slice (some ⟨w.heap.size, 0, none⟩) 31 31) (w.alloc (.cells reg0 26)) := by
  obtain ⟨ht, hinfo⟩ := el_u64
  obtain ⟨i, hi, hz0, hz1, hz2⟩ := info_parts hinfo
  have hr := run_make (P := Tryz.prog) w 32 26 i (.int .u64 0) ht hi hz0 .i64 .i64 31 31 (by decide) (Int.le_refl _) (by rw [hz2]; decide) (by decide)
  rw [hz1] at hr
  have e : (Int.toNat 31) = 31 := rfl
  rw [e, reg0_made] at hr
  exact hr
def labAt (f : Nat → Nat) (k l : Nat) : Nat → Nat := fun i => if i = k then l else f i
theorem labAt_same (f : Nat → Nat) (k l : Nat) : labAt f k l k = l := if_pos rfl
theorem labAt_lt (f : Nat → Nat) (k l : Nat) : ∀ i, i < k → labAt f k l i = f i := fun i hi => if_neg (by omega)
theorem regs_own (w : World) (f : Nat → Nat) (B l : Nat) (hB : B ≤ w.heap.size) : OwnL (w.alloc (.cells reg0 26)) (labAt f w.heap.size l) B l 26 1 (.slice (some ⟨w.heap.size, 0, none⟩) 31 31) 31 ((List.replicate 31 0).map u64V) :=
  ⟨⟨by simp, .inr ⟨_, 31, _, rfl, hB, heap_alloc_new w _, Nat.le_refl _, by decide, by simp [reg0], by rw [reg0_list]; simp⟩⟩, fun g hg => by simp only [Value.ownBlock, Option.some.injEq] at hg; subst hg; exact labAt_same _ _ _⟩
theorem OwnL.set15 {w : World} {f : Nat → Nat} {B l k : Nat} {e : TypeId} {size : Nat} {v : Value} {n : Nat} {xs : List Value} (h : OwnL w f B l e size v n xs) (hk : f k = 15) (hl : l ≠ 15) (j : Nat) (u : Value) : OwnL (w.setCell ⟨k, j, none⟩ u) f B l e size v n xs := h.gl (L := fun l => l = 15) ((GL.refl _ _ _).set hk j u) hl
set_option maxRecDepth 100000 in
set_option maxHeartbeats 1600000 in
theorem core_ok_sp {w : World} {f : Nat → Nat} {B g n r tn : Nat} {p : Option Addr} {c : Nat} {tk : List Tk} {s : RS} {x : SrcA} {v : SrcV} (hS : ST w f B g n x v) (hR : RdrL w f r tn p c tk s) (at_ : Int) (hn : n < 19000) {i sp tb : Nat} {s1 s3 s4 s5 s6 : RS} (hA : smallR tk s 65536 = (i, s1)) (hi : i = x.cores.length) (hB : wIsR tk s1 ⟨#[115, 112, 97, 99, 101]⟩ = (true, s3)) (hC : smallR tk s3 65536 = (sp, s4)) (hD : mustR tk s4 1 wTable = s5) (hE : numberR tk s5 = (tb, s6)) :
    Calls Tryz.prog 29 #[.pointer (some ⟨g, 0, none⟩), .pointer (some ⟨r, 0, none⟩), .int .i64 at_] w (SomeST w f B g (n + 3) r tn p c tk (coreR tk x s at_)) := by
  have HX := Lib.hid (show coreR tk x s at_ = ({ x with cores := x.cores ++ [⟨List.replicate 31 0, sp, tb, [], []⟩], pCo := x.pCo ++ [at_], pI := x.pI ++ [[]], after := 2 }, s6) by unfold coreR; simp only [hA, if_pos hi, hB, if_true, hC, hD, hE])
  have HA := Lib.hid (show Calls Tryz.prog 47 #[.pointer (some ⟨r, 0, none⟩), .int .i64 65536] w fun e w' => e = .returned (.int .i64 (i : Nat)) ∧ RdrAt w' r tn p c tk s1 ∧ w.grownBy w' (some r) by have := small_any w 65536 (by decide) (by decide) hR.1; rw [hA] at this; exact this)
  have HB := Lib.hid (fun w1 (hh : RdrAt w1 r tn p c tk s1) => show Calls Tryz.prog 49 #[.pointer (some ⟨r, 0, none⟩), .int .i64 1, .string ⟨#[115, 112, 97, 99, 101]⟩] w1 fun e w' => e = .returned (.bool true) ∧ RdrAt w' r tn p c tk s3 ∧ w1.grownBy w' (some r) by have := wis_any w1 ⟨#[115, 112, 97, 99, 101]⟩ hh; rw [hB] at this; exact this)
  have HC := Lib.hid (fun w1 (hh : RdrAt w1 r tn p c tk s3) => show Calls Tryz.prog 47 #[.pointer (some ⟨r, 0, none⟩), .int .i64 65536] w1 fun e w' => e = .returned (.int .i64 (sp : Nat)) ∧ RdrAt w' r tn p c tk s4 ∧ w1.grownBy w' (some r) by have := small_any w1 65536 (by decide) (by decide) hh; rw [hC] at this; exact this)
  have HD := Lib.hid (fun w1 (hh : RdrAt w1 r tn p c tk s4) => show Calls Tryz.prog 45 #[.pointer (some ⟨r, 0, none⟩), .int .i64 1, .string wTable] w1 fun e w' => e = .returned (.tuple #[]) ∧ RdrAt w' r tn p c tk s5 ∧ w1.grownBy w' (some r) by have := must_any w1 1 wTable hh; rw [hD] at this; exact this)
  have HE := Lib.hid (fun w1 (hh : RdrAt w1 r tn p c tk s5) => show Calls Tryz.prog 44 #[.pointer (some ⟨r, 0, none⟩)] w1 fun e w' => e = .returned (.int .u64 (tb : Nat)) ∧ RdrAt w' r tn p c tk s6 ∧ w1.grownBy w' (some r) by have := number_any w1 hh; rw [hE] at this; exact this)
  unfold wTable at HD
  have hab : (((i : Nat) : Int) != ((x.cores.length : Nat) : Int)) = false := by simp [hi]
  have HK1 := Lib.hid (show x.cores.length + 1 ≤ maxLen by have := hS.sizes.cores; unfold maxLen; omega)
  have HK2 := Lib.hid (show (x.cores.length + 1) * 88 ≤ 140737488355328 by have := hS.sizes.cores; omega)
  have HK4 := Lib.hid (show n < 20000 by omega)
  have HK6 := Lib.hid (show x.pCo.length + 1 ≤ maxLen by have := hS.sizes.pCo; unfold maxLen; omega)
  have HK7 := Lib.hid (show (x.pCo.length + 1) * 8 ≤ 140737488355328 by have := hS.sizes.pCo; omega)
  have HK8 := Lib.hid (show n + 1 < 20000 by omega)
  have HK9 := Lib.hid (show x.pI.length + 1 ≤ maxLen by have := hS.sizes.pI; unfold maxLen; omega)
  have HK10 := Lib.hid (show (x.pI.length + 1) * 24 ≤ 140737488355328 by have := hS.sizes.pI; omega)
  have HK11 := Lib.hid (show n + 1 + 1 < 20000 by omega)
  have HS := Lib.hid hS
  have HR := Lib.hid hR
  obtain ⟨pT, cT, hvT, _⟩ := own_form hS.parts.cores.1
  have c2 := hS.blk.cell 2
  have hgl := hS.lt
  simp only [stC, List.getElem?_cons_zero, List.getElem?_cons_succ] at c2
  rw [hvT] at c2
  have HV := Lib.hid hvT
  clear hS hR hA hi hB hD hE hvT hC
  go_enter Tryz.func29, Tryz.ntmps29
  go_wp2_with fail
  refine (HA.out).mono ?_
  rintro e w1 ⟨rfl, hr, hg⟩
  have HS1 := Lib.hid (HS.out.rd hg HR.out.2.1)
  have HR1 := Lib.hid (HR.out.step hr hg)
  have HC1 := Lib.hid ((Acc.refl w f).rd hg HR.out.2.1)
  clear hr hg HA
  go_wp2_with fail
  have HBa := Lib.hid (below_alloc (Below.refl w1.heap.size w1) (.cells #[.slice none 0 0, .int .i64 0, .int .u64 0, .slice none 0 0, .slice none 0 0] 49))
  have HS3 := Lib.hid ((HS1.out.relab (own15_lt f _)).below HBa.out)
  have HR3 := Lib.hid ((HR1.out.relab (own15_lt f _)).below HBa.out)
  have HC3 := Lib.hid ((HC1.out.relab (own15_lt f _)).below HBa.out)
  have HF1 := Lib.hid (own15_same f w1.heap.size)
  have HT3 := Lib.hid (show Blk (w1.alloc (.cells #[.slice none 0 0, .int .i64 0, .int .u64 0, .slice none 0 0, .slice none 0 0] 49)) 49 w1.heap.size [.slice none 0 0, .int .i64 0, .int .u64 0, .slice none 0 0, .slice none 0 0] from Blk.new w1 _ _)
  have HL0 := Lib.hid (show r < w1.heap.size from HR1.out.1.lt)
  clear HS1 HR1 HC1
  generalize w1.alloc (.cells #[.slice none 0 0, .int .i64 0, .int .u64 0, .slice none 0 0, .slice none 0 0] 49) = w3 at *
  generalize own15 f w1.heap.size = f1 at *
  generalize w1.heap.size = h0 at *
  refine (HB.out _ HR3.out.1).mono ?_
  rintro e w4 ⟨rfl, hr, hg⟩
  have HS4 := Lib.hid (HS3.out.rd hg HR3.out.2.1)
  have HR4 := Lib.hid (HR3.out.step hr hg)
  have HC4 := Lib.hid (HC3.out.rd hg HR3.out.2.1)
  have HT4 := Lib.hid (HT3.out.kept hg (by intro e; injection e; have := HL0.out; omega))
  clear hr hg HS3 HR3 HC3 HT3
  go_wp2_with fail
  refine (HC.out _ HR4.out.1).mono ?_
  rintro e w5 ⟨rfl, hr, hg⟩
  have HS5 := Lib.hid (HS4.out.rd hg HR4.out.2.1)
  have HR5 := Lib.hid (HR4.out.step hr hg)
  have HC5 := Lib.hid (HC4.out.rd hg HR4.out.2.1)
  have HT5 := Lib.hid (HT4.out.kept hg (by intro e; injection e; have := HL0.out; omega))
  clear hr hg HS4 HR4 HC4 HT4
  have HS6 := Lib.hid (HS5.out.set15 HF1.out 1 (.int .i64 (sp : Nat)))
  have HR6 := Lib.hid (HR5.out.set15 HF1.out 1 (.int .i64 (sp : Nat)))
  have HC6 := Lib.hid (HC5.out.set (by rw [HF1.out]; decide) 1 (.int .i64 (sp : Nat)))
  have HT6 := Lib.hid (HT5.out.set 1 (.int .i64 (sp : Nat)))
  have a1 := HT5.out.cell 1
  have a2 := HT5.out.free 1
  have a3 := HT5.out.free 0
  have hh0 := HT5.out.lt
  simp only [List.getElem?_cons_zero, List.getElem?_cons_succ, List.set_cons_succ, List.set_cons_zero] at a1
  clear HS5 HR5 HC5 HT5
  go_wp2_with fail
  generalize w5.setCell ⟨h0, 1, none⟩ (.int .i64 (sp : Nat)) = w6 at *
  clear a1 a2
  refine (HD.out _ HR6.out.1).mono ?_
  rintro e w7 ⟨rfl, hr, hg⟩
  have HS7 := Lib.hid (HS6.out.rd hg HR6.out.2.1)
  have HR7 := Lib.hid (HR6.out.step hr hg)
  have HC7 := Lib.hid (HC6.out.rd hg HR6.out.2.1)
  have HT7 := Lib.hid (HT6.out.kept hg (by intro e; injection e; have := HL0.out; omega))
  clear hr hg HS6 HR6 HC6 HT6
  go_wp2_with fail
  refine (HE.out _ HR7.out.1).mono ?_
  rintro e w8 ⟨rfl, hr, hg⟩
  have HS8 := Lib.hid (HS7.out.rd hg HR7.out.2.1)
  have HR8 := Lib.hid (HR7.out.step hr hg)
  have HC8 := Lib.hid (HC7.out.rd hg HR7.out.2.1)
  have HT8 := Lib.hid (HT7.out.kept hg (by intro e; injection e; have := HL0.out; omega))
  clear hr hg HS7 HR7 HC7 HT7
  have HS9 := Lib.hid (HS8.out.set15 HF1.out 2 (.int .u64 (tb : Nat)))
  have HR9 := Lib.hid (HR8.out.set15 HF1.out 2 (.int .u64 (tb : Nat)))
  have HC9 := Lib.hid (HC8.out.set (by rw [HF1.out]; decide) 2 (.int .u64 (tb : Nat)))
  have HT9 := Lib.hid (HT8.out.set 2 (.int .u64 (tb : Nat)))
  have a1 := HT8.out.cell 2
  have a2 := HT8.out.free 2
  have a3 := HT8.out.free 0
  have hh0 := HT8.out.lt
  simp only [List.getElem?_cons_zero, List.getElem?_cons_succ, List.set_cons_succ, List.set_cons_zero] at a1
  clear HS8 HR8 HC8 HT8
  have a0 := HT9.out.cell 0
  simp only [List.getElem?_cons_zero, List.getElem?_cons_succ, List.set_cons_succ, List.set_cons_zero] at a0
  have hmk := mk31
  go_wp2_with fail
  clear a0 a1 a2 a3 hmk
  have hz : ((w8.setCell ⟨h0, 2, none⟩ (.int .u64 (tb : Nat))).setCell ⟨h0, 0, none⟩ (.slice (some ⟨w8.heap.size, 0, none⟩) 31 31)).heap.size = w8.heap.size := by simp
  have HSq := HS9.out.set15 HF1.out 0 (.slice (some ⟨w8.heap.size, 0, none⟩) 31 31)
  have HRq := HR9.out.set15 HF1.out 0 (.slice (some ⟨w8.heap.size, 0, none⟩) 31 31)
  have HCq := HC9.out.set (show f1 h0 ≠ 0 by rw [HF1.out]; decide) 0 (.slice (some ⟨w8.heap.size, 0, none⟩) 31 31)
  have HTq := HT9.out.set 0 (.slice (some ⟨w8.heap.size, 0, none⟩) 31 31)
  clear HS9 HR9 HC9 HT9
  generalize ((w8.setCell ⟨h0, 2, none⟩ (.int .u64 (tb : Nat))).setCell ⟨h0, 0, none⟩ (.slice (some ⟨w8.heap.size, 0, none⟩) 31 31)) = wq at *
  rw [← hz] at *
  clear hz
  have HBr := Lib.hid (below_alloc (Below.refl wq.heap.size wq) (.cells reg0 26))
  have HSb := Lib.hid ((HSq.relab (labAt_lt f1 _ (lab 10 x.cores.length))).below HBr.out)
  have HRb := Lib.hid ((HRq.relab (labAt_lt f1 _ (lab 10 x.cores.length))).below HBr.out)
  have HCb := Lib.hid ((HCq.relab (labAt_lt f1 _ (lab 10 x.cores.length))).below HBr.out)
  have HTb := Lib.hid (HTq.below HBr.out)
  have HOb := Lib.hid (regs_own wq f1 B (lab 10 x.cores.length) (Nat.le_trans HSq.le (Nat.le_of_lt HSq.lt)))
  clear HSq HRq HCq HTq HBr
  generalize labAt f1 wq.heap.size (lab 10 x.cores.length) = f2 at *
  generalize wq.alloc (.cells reg0 26) = wb at *
  generalize wq.heap.size = h1 at *
  have b0 := HTb.out.cell 0
  have b1 := HTb.out.cell 1
  have b2 := HTb.out.cell 2
  have b3 := HTb.out.cell 3
  have b4 := HTb.out.cell 4
  have hd2 := HSb.out.blk.cell 2
  have hgl2 := HSb.out.lt
  simp only [stC, List.set_cons_succ, List.set_cons_zero, List.getElem?_cons_zero, List.getElem?_cons_succ] at hd2 b0 b1 b2 b3 b4
  have HSD := Lib.hid (show ST wb.drew f2 B g n x v from HSb.out.below (Below.refl _ _).drew)
  have HOD := Lib.hid (show OwnL wb.drew f2 B (lab 10 x.cores.length) 26 1 (.slice (some ⟨h1, 0, none⟩) 31 31) 31 ((List.replicate 31 0).map u64V) from HOb.out)
  have HO2 := Lib.hid (show wb.drew.ownsRow B 49 5 (.slice pT x.cores.length cT) x.cores.length (coresC v.cvs x.cores) by rw [← HV.out]; exact HSD.out.parts.cores.1)
  have HK3 := Lib.hid (show B ≤ wb.drew.heap.size from Nat.le_trans HSb.out.le (Nat.le_of_lt hgl2))
  rw [HV.out] at hd2
  go_region_law? ((refine step_app1l rfl _ _ 25 rfl B 49 _ 5 88 el_core rfl (by decide) _ _ _ (by rfl) HO2.out [.slice (some ⟨h1, 0, none⟩) 31 31, .int .i64 (sp : Nat), .int .u64 (tb : Nat), .slice none 0 0, .slice none 0 0] rfl _ (by rfl) (by rfl) (by simp [Value.oneCell', u64V]) HK1.out HK2.out HK3.out ?_; intro v' w5 ho hg hk; obtain ⟨p3, c3, hv3, _⟩ := own_form ho; subst hv3; obtain ⟨f3, hA, hS3⟩ := HSD.out.app_cores ⟨.slice (some ⟨h1, 0, none⟩) 31 31, .slice none 0 0, .slice none 0 0⟩ ⟨List.replicate 31 0, sp, tb, [], []⟩ ⟨HOD.out, OwnL.nil _ _ _ _ _ _, OwnL.nil _ _ _ _ _ _⟩ ⟨Nat.zero_le _, Nat.zero_le _, rfl⟩ (by rw [HV.out]; exact hg) ho (by rw [HV.out]; exact hk) HK4.out; have hd := hA.blk.cell 2; have he := hA.blk.free 2; have hgl3 := hA.blk.lt; simp only [stC, List.getElem?_cons_zero, List.getElem?_cons_succ] at hd))
  all_goals
    have HRe := Lib.hid (hA.rdr (HRb.out.below (Below.refl _ _).drew) (by decide) (by decide) 2 (.slice p3 (x.cores.length + 1) c3))
    have HCe := Lib.hid (hA.acc (HCb.out.below (Below.refl _ _).drew) (by decide) 2 (.slice p3 (x.cores.length + 1) c3))
    have HSe := Lib.hid hS3
    clear hA hS3 hd he hd2 HSb HRb HCb HO2 HSD HOD HOb HTb b0 b1 b2 b3 b4
    generalize w5.setCell ⟨g, 2, none⟩ (.slice p3 (x.cores.length + 1) c3) = we at *
    have HOf := Lib.hid HSe.out.parts.pCo.1
    have HJf := Lib.hid (show B ≤ (we).heap.size from Nat.le_trans HSe.out.le (Nat.le_of_lt HSe.out.lt))
    obtain ⟨pf, cf, hvf, _⟩ := own_form HSe.out.parts.pCo.1
    have hglf := HSe.out.lt
    have df := HSe.out.blk.cell 13
    try simp only [stC, List.getElem?_cons_zero, List.getElem?_cons_succ] at df
    rw [hvf] at df HOf
    go_wp2_with (at_builtin; refine app1l rfl _ _ 33 rfl B 3 _ 1 8 el_int rfl (by decide) _ _ _ rfl HOf.out [i64V at_] rfl _ rfl (by simp) (by simp [Value.oneCell', i64V]) HK6.out HK7.out HJf.out ?_)
    intro vf wf ho hg hb hk
    obtain ⟨qf, ef, hqf, _⟩ := own_form ho
    subst hqf
    obtain ⟨ff, hA, hS⟩ := HSe.out.app_pCo at_ (by rw [hvf]; exact hg) ho (by rw [hvf]; exact hk) HK8.out
    have hdf := hA.blk.cell 13
    have hef := hA.blk.free 13
    have dnf := hA.blk.cell 14
    have fnf := hA.blk.free 14
    have hgmf := hA.blk.lt
    simp only [stC, List.getElem?_cons_zero, List.getElem?_cons_succ] at hdf dnf
    have HSf := Lib.hid hS
    have HRf := Lib.hid (hA.rdr HRe.out (by decide) (by decide) 13 (.slice qf (x.pCo.length + 1) ef))
    have HCf := Lib.hid (hA.acc HCe.out (by decide) 13 (.slice qf (x.pCo.length + 1) ef))
    clear hA hS HSe HRe HCe df HOf hvf ho hg hb hk
    have HSg := HSf
    have HRg := HRf
    have HCg := HCf
    obtain ⟨pg, cg, hvg, _⟩ := own_form HSf.out.parts.pI.1
    have HOg := Lib.hid (show (wf.setCell ⟨g, 13, none⟩ (.slice qf (x.pCo.length + 1) ef)).ownsRow B 33 1 (.slice pg x.pI.length cg) x.pI.length v.ivs by rw [← hvg]; exact HSg.out.parts.pI.1)
    have HJg := Lib.hid (show B ≤ (wf.setCell ⟨g, 13, none⟩ (.slice qf (x.pCo.length + 1) ef)).heap.size from Nat.le_trans HSg.out.le (Nat.le_of_lt HSg.out.lt))
    rw [hvg] at dnf
    clear HSf HRf HCf
    have hglf : g < wf.heap.size := hgmf
    iterate 60 (first | at_builtin | go_values | go_skip | go_guarded | go_step | go_upon | go_back)
    refine app1l rfl _ _ 34 rfl B 33 _ 1 24 el_rows rfl (by decide) _ _ _ rfl HOg.out [.slice none 0 0] rfl _ rfl (by simp) (by simp [Value.oneCell']) HK9.out HK10.out HJg.out ?_
    intro vg wg ho hg hb hk
    obtain ⟨qg, eg, hqg, _⟩ := own_form ho
    subst hqg
    obtain ⟨fg, hA, hS⟩ := HSg.out.app_pI (by rw [hvg]; exact hg) ho (by rw [hvg]; exact hk) HK11.out
    have hdg := hA.blk.cell 14
    have heg := hA.blk.free 14
    have dng := hA.blk.cell 16
    have fng := hA.blk.free 16
    have hgmg := hA.blk.lt
    simp only [stC, List.getElem?_cons_zero, List.getElem?_cons_succ] at hdg dng
    have HSz := Lib.hid (hS.put (x' := { x with cores := x.cores ++ [⟨List.replicate 31 0, sp, tb, [], []⟩], pCo := x.pCo ++ [at_], pI := x.pI ++ [[]], after := 2 }) (v' := _) (n' := n + 3) (j := 16) (u := .int .i64 2) rfl ⟨hS.parts.cells, hS.parts.cores, hS.parts.lenc, hS.parts.core, hS.parts.cond, hS.parts.tables, hS.parts.pT, hS.parts.pC, hS.parts.pCo, hS.parts.pI, hS.parts.leni, hS.parts.ins⟩ ⟨hS.sizes.cells, hS.sizes.cores, hS.sizes.tables, hS.sizes.pT, hS.sizes.pC, hS.sizes.pCo, hS.sizes.pI, hS.sizes.ins, hS.sizes.code⟩ hS.small)
    have HRz := Lib.hid ((hA.rdr HRg.out (by decide) (by decide) 14 (.slice qg (x.pI.length + 1) eg)).set hS.lg 16 (.int .i64 2))
    have HCz := Lib.hid ((hA.acc HCg.out (by decide) 14 (.slice qg (x.pI.length + 1) eg)).set (show fg g ≠ 0 by rw [hS.lg]; decide) 16 (.int .i64 2))
    clear hA hS ho hg hb hk HSg HRg HCg hvg
    go_wp2_with fail
    go_end0
    rw [HX.out]
    exact SomeST.of HSz.out HRz.out HCz.out
set_option maxRecDepth 100000 in
set_option maxHeartbeats 1600000 in
theorem core_ok_ns {w : World} {f : Nat → Nat} {B g n r tn : Nat} {p : Option Addr} {c : Nat} {tk : List Tk} {s : RS} {x : SrcA} {v : SrcV} (hS : ST w f B g n x v) (hR : RdrL w f r tn p c tk s) (at_ : Int) (hn : n < 19000) {i tb : Nat} {s1 s3 s5 s6 : RS} (hA : smallR tk s 65536 = (i, s1)) (hi : i = x.cores.length) (hB : wIsR tk s1 ⟨#[115, 112, 97, 99, 101]⟩ = (false, s3)) (hD : mustR tk s3 1 wTable = s5) (hE : numberR tk s5 = (tb, s6)) :
    Calls Tryz.prog 29 #[.pointer (some ⟨g, 0, none⟩), .pointer (some ⟨r, 0, none⟩), .int .i64 at_] w (SomeST w f B g (n + 3) r tn p c tk (coreR tk x s at_)) := by
  have HX := Lib.hid (show coreR tk x s at_ = ({ x with cores := x.cores ++ [⟨List.replicate 31 0, 0, tb, [], []⟩], pCo := x.pCo ++ [at_], pI := x.pI ++ [[]], after := 2 }, s6) by unfold coreR; simp only [hA, if_pos hi, hB, Bool.false_eq_true, if_false, hD, hE])
  have HA := Lib.hid (show Calls Tryz.prog 47 #[.pointer (some ⟨r, 0, none⟩), .int .i64 65536] w fun e w' => e = .returned (.int .i64 (i : Nat)) ∧ RdrAt w' r tn p c tk s1 ∧ w.grownBy w' (some r) by have := small_any w 65536 (by decide) (by decide) hR.1; rw [hA] at this; exact this)
  have HB := Lib.hid (fun w1 (hh : RdrAt w1 r tn p c tk s1) => show Calls Tryz.prog 49 #[.pointer (some ⟨r, 0, none⟩), .int .i64 1, .string ⟨#[115, 112, 97, 99, 101]⟩] w1 fun e w' => e = .returned (.bool false) ∧ RdrAt w' r tn p c tk s3 ∧ w1.grownBy w' (some r) by have := wis_any w1 ⟨#[115, 112, 97, 99, 101]⟩ hh; rw [hB] at this; exact this)
  have HD := Lib.hid (fun w1 (hh : RdrAt w1 r tn p c tk s3) => show Calls Tryz.prog 45 #[.pointer (some ⟨r, 0, none⟩), .int .i64 1, .string wTable] w1 fun e w' => e = .returned (.tuple #[]) ∧ RdrAt w' r tn p c tk s5 ∧ w1.grownBy w' (some r) by have := must_any w1 1 wTable hh; rw [hD] at this; exact this)
  have HE := Lib.hid (fun w1 (hh : RdrAt w1 r tn p c tk s5) => show Calls Tryz.prog 44 #[.pointer (some ⟨r, 0, none⟩)] w1 fun e w' => e = .returned (.int .u64 (tb : Nat)) ∧ RdrAt w' r tn p c tk s6 ∧ w1.grownBy w' (some r) by have := number_any w1 hh; rw [hE] at this; exact this)
  unfold wTable at HD
  have hab : (((i : Nat) : Int) != ((x.cores.length : Nat) : Int)) = false := by simp [hi]
  have HK1 := Lib.hid (show x.cores.length + 1 ≤ maxLen by have := hS.sizes.cores; unfold maxLen; omega)
  have HK2 := Lib.hid (show (x.cores.length + 1) * 88 ≤ 140737488355328 by have := hS.sizes.cores; omega)
  have HK4 := Lib.hid (show n < 20000 by omega)
  have HK6 := Lib.hid (show x.pCo.length + 1 ≤ maxLen by have := hS.sizes.pCo; unfold maxLen; omega)
  have HK7 := Lib.hid (show (x.pCo.length + 1) * 8 ≤ 140737488355328 by have := hS.sizes.pCo; omega)
  have HK8 := Lib.hid (show n + 1 < 20000 by omega)
  have HK9 := Lib.hid (show x.pI.length + 1 ≤ maxLen by have := hS.sizes.pI; unfold maxLen; omega)
  have HK10 := Lib.hid (show (x.pI.length + 1) * 24 ≤ 140737488355328 by have := hS.sizes.pI; omega)
  have HK11 := Lib.hid (show n + 1 + 1 < 20000 by omega)
  have HS := Lib.hid hS
  have HR := Lib.hid hR
  obtain ⟨pT, cT, hvT, _⟩ := own_form hS.parts.cores.1
  have c2 := hS.blk.cell 2
  have hgl := hS.lt
  simp only [stC, List.getElem?_cons_zero, List.getElem?_cons_succ] at c2
  rw [hvT] at c2
  have HV := Lib.hid hvT
  clear hS hR hA hi hB hD hE hvT 
  go_enter Tryz.func29, Tryz.ntmps29
  go_wp2_with fail
  refine (HA.out).mono ?_
  rintro e w1 ⟨rfl, hr, hg⟩
  have HS1 := Lib.hid (HS.out.rd hg HR.out.2.1)
  have HR1 := Lib.hid (HR.out.step hr hg)
  have HC1 := Lib.hid ((Acc.refl w f).rd hg HR.out.2.1)
  clear hr hg HA
  go_wp2_with fail
  have HBa := Lib.hid (below_alloc (Below.refl w1.heap.size w1) (.cells #[.slice none 0 0, .int .i64 0, .int .u64 0, .slice none 0 0, .slice none 0 0] 49))
  have HS3 := Lib.hid ((HS1.out.relab (own15_lt f _)).below HBa.out)
  have HR3 := Lib.hid ((HR1.out.relab (own15_lt f _)).below HBa.out)
  have HC3 := Lib.hid ((HC1.out.relab (own15_lt f _)).below HBa.out)
  have HF1 := Lib.hid (own15_same f w1.heap.size)
  have HT3 := Lib.hid (show Blk (w1.alloc (.cells #[.slice none 0 0, .int .i64 0, .int .u64 0, .slice none 0 0, .slice none 0 0] 49)) 49 w1.heap.size [.slice none 0 0, .int .i64 0, .int .u64 0, .slice none 0 0, .slice none 0 0] from Blk.new w1 _ _)
  have HL0 := Lib.hid (show r < w1.heap.size from HR1.out.1.lt)
  clear HS1 HR1 HC1
  generalize w1.alloc (.cells #[.slice none 0 0, .int .i64 0, .int .u64 0, .slice none 0 0, .slice none 0 0] 49) = w3 at *
  generalize own15 f w1.heap.size = f1 at *
  generalize w1.heap.size = h0 at *
  refine (HB.out _ HR3.out.1).mono ?_
  rintro e w4 ⟨rfl, hr, hg⟩
  have HS4 := Lib.hid (HS3.out.rd hg HR3.out.2.1)
  have HR4 := Lib.hid (HR3.out.step hr hg)
  have HC4 := Lib.hid (HC3.out.rd hg HR3.out.2.1)
  have HT4 := Lib.hid (HT3.out.kept hg (by intro e; injection e; have := HL0.out; omega))
  clear hr hg HS3 HR3 HC3 HT3
  go_wp2_with fail
  refine (HD.out _ HR4.out.1).mono ?_
  rintro e w7 ⟨rfl, hr, hg⟩
  have HS7 := Lib.hid (HS4.out.rd hg HR4.out.2.1)
  have HR7 := Lib.hid (HR4.out.step hr hg)
  have HC7 := Lib.hid (HC4.out.rd hg HR4.out.2.1)
  have HT7 := Lib.hid (HT4.out.kept hg (by intro e; injection e; have := HL0.out; omega))
  clear hr hg HS4 HR4 HC4 HT4
  go_wp2_with fail
  refine (HE.out _ HR7.out.1).mono ?_
  rintro e w8 ⟨rfl, hr, hg⟩
  have HS8 := Lib.hid (HS7.out.rd hg HR7.out.2.1)
  have HR8 := Lib.hid (HR7.out.step hr hg)
  have HC8 := Lib.hid (HC7.out.rd hg HR7.out.2.1)
  have HT8 := Lib.hid (HT7.out.kept hg (by intro e; injection e; have := HL0.out; omega))
  clear hr hg HS7 HR7 HC7 HT7
  have HS9 := Lib.hid (HS8.out.set15 HF1.out 2 (.int .u64 (tb : Nat)))
  have HR9 := Lib.hid (HR8.out.set15 HF1.out 2 (.int .u64 (tb : Nat)))
  have HC9 := Lib.hid (HC8.out.set (by rw [HF1.out]; decide) 2 (.int .u64 (tb : Nat)))
  have HT9 := Lib.hid (HT8.out.set 2 (.int .u64 (tb : Nat)))
  have a1 := HT8.out.cell 2
  have a2 := HT8.out.free 2
  have a3 := HT8.out.free 0
  have hh0 := HT8.out.lt
  simp only [List.getElem?_cons_zero, List.getElem?_cons_succ, List.set_cons_succ, List.set_cons_zero] at a1
  clear HS8 HR8 HC8 HT8
  have a0 := HT9.out.cell 0
  simp only [List.getElem?_cons_zero, List.getElem?_cons_succ, List.set_cons_succ, List.set_cons_zero] at a0
  have hmk := mk31
  go_wp2_with fail
  clear a0 a1 a2 a3 hmk
  have hz : ((w8.setCell ⟨h0, 2, none⟩ (.int .u64 (tb : Nat))).setCell ⟨h0, 0, none⟩ (.slice (some ⟨w8.heap.size, 0, none⟩) 31 31)).heap.size = w8.heap.size := by simp
  have HSq := HS9.out.set15 HF1.out 0 (.slice (some ⟨w8.heap.size, 0, none⟩) 31 31)
  have HRq := HR9.out.set15 HF1.out 0 (.slice (some ⟨w8.heap.size, 0, none⟩) 31 31)
  have HCq := HC9.out.set (show f1 h0 ≠ 0 by rw [HF1.out]; decide) 0 (.slice (some ⟨w8.heap.size, 0, none⟩) 31 31)
  have HTq := HT9.out.set 0 (.slice (some ⟨w8.heap.size, 0, none⟩) 31 31)
  clear HS9 HR9 HC9 HT9
  generalize ((w8.setCell ⟨h0, 2, none⟩ (.int .u64 (tb : Nat))).setCell ⟨h0, 0, none⟩ (.slice (some ⟨w8.heap.size, 0, none⟩) 31 31)) = wq at *
  rw [← hz] at *
  clear hz
  have HBr := Lib.hid (below_alloc (Below.refl wq.heap.size wq) (.cells reg0 26))
  have HSb := Lib.hid ((HSq.relab (labAt_lt f1 _ (lab 10 x.cores.length))).below HBr.out)
  have HRb := Lib.hid ((HRq.relab (labAt_lt f1 _ (lab 10 x.cores.length))).below HBr.out)
  have HCb := Lib.hid ((HCq.relab (labAt_lt f1 _ (lab 10 x.cores.length))).below HBr.out)
  have HTb := Lib.hid (HTq.below HBr.out)
  have HOb := Lib.hid (regs_own wq f1 B (lab 10 x.cores.length) (Nat.le_trans HSq.le (Nat.le_of_lt HSq.lt)))
  clear HSq HRq HCq HTq HBr
  generalize labAt f1 wq.heap.size (lab 10 x.cores.length) = f2 at *
  generalize wq.alloc (.cells reg0 26) = wb at *
  generalize wq.heap.size = h1 at *
  have b0 := HTb.out.cell 0
  have b1 := HTb.out.cell 1
  have b2 := HTb.out.cell 2
  have b3 := HTb.out.cell 3
  have b4 := HTb.out.cell 4
  have hd2 := HSb.out.blk.cell 2
  have hgl2 := HSb.out.lt
  simp only [stC, List.set_cons_succ, List.set_cons_zero, List.getElem?_cons_zero, List.getElem?_cons_succ] at hd2 b0 b1 b2 b3 b4
  have HSD := Lib.hid (show ST wb.drew f2 B g n x v from HSb.out.below (Below.refl _ _).drew)
  have HOD := Lib.hid (show OwnL wb.drew f2 B (lab 10 x.cores.length) 26 1 (.slice (some ⟨h1, 0, none⟩) 31 31) 31 ((List.replicate 31 0).map u64V) from HOb.out)
  have HO2 := Lib.hid (show wb.drew.ownsRow B 49 5 (.slice pT x.cores.length cT) x.cores.length (coresC v.cvs x.cores) by rw [← HV.out]; exact HSD.out.parts.cores.1)
  have HK3 := Lib.hid (show B ≤ wb.drew.heap.size from Nat.le_trans HSb.out.le (Nat.le_of_lt hgl2))
  rw [HV.out] at hd2
  go_region_law? ((refine step_app1l rfl _ _ 25 rfl B 49 _ 5 88 el_core rfl (by decide) _ _ _ (by rfl) HO2.out [.slice (some ⟨h1, 0, none⟩) 31 31, .int .i64 (0 : Nat), .int .u64 (tb : Nat), .slice none 0 0, .slice none 0 0] rfl _ (by rfl) (by rfl) (by simp [Value.oneCell', u64V]) HK1.out HK2.out HK3.out ?_; intro v' w5 ho hg hk; obtain ⟨p3, c3, hv3, _⟩ := own_form ho; subst hv3; obtain ⟨f3, hA, hS3⟩ := HSD.out.app_cores ⟨.slice (some ⟨h1, 0, none⟩) 31 31, .slice none 0 0, .slice none 0 0⟩ ⟨List.replicate 31 0, 0, tb, [], []⟩ ⟨HOD.out, OwnL.nil _ _ _ _ _ _, OwnL.nil _ _ _ _ _ _⟩ ⟨Nat.zero_le _, Nat.zero_le _, rfl⟩ (by rw [HV.out]; exact hg) ho (by rw [HV.out]; exact hk) HK4.out; have hd := hA.blk.cell 2; have he := hA.blk.free 2; have hgl3 := hA.blk.lt; simp only [stC, List.getElem?_cons_zero, List.getElem?_cons_succ] at hd))
  all_goals
    have HRe := Lib.hid (hA.rdr (HRb.out.below (Below.refl _ _).drew) (by decide) (by decide) 2 (.slice p3 (x.cores.length + 1) c3))
    have HCe := Lib.hid (hA.acc (HCb.out.below (Below.refl _ _).drew) (by decide) 2 (.slice p3 (x.cores.length + 1) c3))
    have HSe := Lib.hid hS3
    clear hA hS3 hd he hd2 HSb HRb HCb HO2 HSD HOD HOb HTb b0 b1 b2 b3 b4
    generalize w5.setCell ⟨g, 2, none⟩ (.slice p3 (x.cores.length + 1) c3) = we at *
    have HOf := Lib.hid HSe.out.parts.pCo.1
    have HJf := Lib.hid (show B ≤ (we).heap.size from Nat.le_trans HSe.out.le (Nat.le_of_lt HSe.out.lt))
    obtain ⟨pf, cf, hvf, _⟩ := own_form HSe.out.parts.pCo.1
    have hglf := HSe.out.lt
    have df := HSe.out.blk.cell 13
    try simp only [stC, List.getElem?_cons_zero, List.getElem?_cons_succ] at df
    rw [hvf] at df HOf
    go_wp2_with (at_builtin; refine app1l rfl _ _ 33 rfl B 3 _ 1 8 el_int rfl (by decide) _ _ _ rfl HOf.out [i64V at_] rfl _ rfl (by simp) (by simp [Value.oneCell', i64V]) HK6.out HK7.out HJf.out ?_)
    intro vf wf ho hg hb hk
    obtain ⟨qf, ef, hqf, _⟩ := own_form ho
    subst hqf
    obtain ⟨ff, hA, hS⟩ := HSe.out.app_pCo at_ (by rw [hvf]; exact hg) ho (by rw [hvf]; exact hk) HK8.out
    have hdf := hA.blk.cell 13
    have hef := hA.blk.free 13
    have dnf := hA.blk.cell 14
    have fnf := hA.blk.free 14
    have hgmf := hA.blk.lt
    simp only [stC, List.getElem?_cons_zero, List.getElem?_cons_succ] at hdf dnf
    have HSf := Lib.hid hS
    have HRf := Lib.hid (hA.rdr HRe.out (by decide) (by decide) 13 (.slice qf (x.pCo.length + 1) ef))
    have HCf := Lib.hid (hA.acc HCe.out (by decide) 13 (.slice qf (x.pCo.length + 1) ef))
    clear hA hS HSe HRe HCe df HOf hvf ho hg hb hk
    have HSg := HSf
    have HRg := HRf
    have HCg := HCf
    obtain ⟨pg, cg, hvg, _⟩ := own_form HSf.out.parts.pI.1
    have HOg := Lib.hid (show (wf.setCell ⟨g, 13, none⟩ (.slice qf (x.pCo.length + 1) ef)).ownsRow B 33 1 (.slice pg x.pI.length cg) x.pI.length v.ivs by rw [← hvg]; exact HSg.out.parts.pI.1)
    have HJg := Lib.hid (show B ≤ (wf.setCell ⟨g, 13, none⟩ (.slice qf (x.pCo.length + 1) ef)).heap.size from Nat.le_trans HSg.out.le (Nat.le_of_lt HSg.out.lt))
    rw [hvg] at dnf
    clear HSf HRf HCf
    have hglf : g < wf.heap.size := hgmf
    iterate 60 (first | at_builtin | go_values | go_skip | go_guarded | go_step | go_upon | go_back)
    refine app1l rfl _ _ 34 rfl B 33 _ 1 24 el_rows rfl (by decide) _ _ _ rfl HOg.out [.slice none 0 0] rfl _ rfl (by simp) (by simp [Value.oneCell']) HK9.out HK10.out HJg.out ?_
    intro vg wg ho hg hb hk
    obtain ⟨qg, eg, hqg, _⟩ := own_form ho
    subst hqg
    obtain ⟨fg, hA, hS⟩ := HSg.out.app_pI (by rw [hvg]; exact hg) ho (by rw [hvg]; exact hk) HK11.out
    have hdg := hA.blk.cell 14
    have heg := hA.blk.free 14
    have dng := hA.blk.cell 16
    have fng := hA.blk.free 16
    have hgmg := hA.blk.lt
    simp only [stC, List.getElem?_cons_zero, List.getElem?_cons_succ] at hdg dng
    have HSz := Lib.hid (hS.put (x' := { x with cores := x.cores ++ [⟨List.replicate 31 0, 0, tb, [], []⟩], pCo := x.pCo ++ [at_], pI := x.pI ++ [[]], after := 2 }) (v' := _) (n' := n + 3) (j := 16) (u := .int .i64 2) rfl ⟨hS.parts.cells, hS.parts.cores, hS.parts.lenc, hS.parts.core, hS.parts.cond, hS.parts.tables, hS.parts.pT, hS.parts.pC, hS.parts.pCo, hS.parts.pI, hS.parts.leni, hS.parts.ins⟩ ⟨hS.sizes.cells, hS.sizes.cores, hS.sizes.tables, hS.sizes.pT, hS.sizes.pC, hS.sizes.pCo, hS.sizes.pI, hS.sizes.ins, hS.sizes.code⟩ hS.small)
    have HRz := Lib.hid ((hA.rdr HRg.out (by decide) (by decide) 14 (.slice qg (x.pI.length + 1) eg)).set hS.lg 16 (.int .i64 2))
    have HCz := Lib.hid ((hA.acc HCg.out (by decide) 14 (.slice qg (x.pI.length + 1) eg)).set (show fg g ≠ 0 by rw [hS.lg]; decide) 16 (.int .i64 2))
    clear hA hS ho hg hb hk HSg HRg HCg hvg
    go_wp2_with fail
    go_end0
    rw [HX.out]
    exact SomeST.of HSz.out HRz.out HCz.out
set_option maxRecDepth 100000 in
set_option maxHeartbeats 1600000 in
theorem core_no_sp {w : World} {f : Nat → Nat} {B g n r tn : Nat} {p : Option Addr} {c : Nat} {tk : List Tk} {s : RS} {x : SrcA} {v : SrcV} (hS : ST w f B g n x v) (hR : RdrL w f r tn p c tk s) (at_ : Int) (hn : n < 19000) {i sp tb : Nat} {s1 s3 s4 s5 s6 : RS} (hA : smallR tk s 65536 = (i, s1)) (hi : ¬ i = x.cores.length) (hB : wIsR tk (faultR s1 110 at_) ⟨#[115, 112, 97, 99, 101]⟩ = (true, s3)) (hC : smallR tk s3 65536 = (sp, s4)) (hD : mustR tk s4 1 wTable = s5) (hE : numberR tk s5 = (tb, s6)) :
    Calls Tryz.prog 29 #[.pointer (some ⟨g, 0, none⟩), .pointer (some ⟨r, 0, none⟩), .int .i64 at_] w (SomeST w f B g (n + 3) r tn p c tk (coreR tk x s at_)) := by
  have HX := Lib.hid (show coreR tk x s at_ = ({ x with cores := x.cores ++ [⟨List.replicate 31 0, sp, tb, [], []⟩], pCo := x.pCo ++ [at_], pI := x.pI ++ [[]], after := 2 }, s6) by unfold coreR; simp only [hA, if_neg hi, hB, if_true, hC, hD, hE])
  have HA := Lib.hid (show Calls Tryz.prog 47 #[.pointer (some ⟨r, 0, none⟩), .int .i64 65536] w fun e w' => e = .returned (.int .i64 (i : Nat)) ∧ RdrAt w' r tn p c tk s1 ∧ w.grownBy w' (some r) by have := small_any w 65536 (by decide) (by decide) hR.1; rw [hA] at this; exact this)
  have HF := Lib.hid (fun w1 (hh : RdrAt w1 r tn p c tk s1) => fault_any w1 110 at_ hh)
  have HB := Lib.hid (fun w1 (hh : RdrAt w1 r tn p c tk (faultR s1 110 at_)) => show Calls Tryz.prog 49 #[.pointer (some ⟨r, 0, none⟩), .int .i64 1, .string ⟨#[115, 112, 97, 99, 101]⟩] w1 fun e w' => e = .returned (.bool true) ∧ RdrAt w' r tn p c tk s3 ∧ w1.grownBy w' (some r) by have := wis_any w1 ⟨#[115, 112, 97, 99, 101]⟩ hh; rw [hB] at this; exact this)
  have HC := Lib.hid (fun w1 (hh : RdrAt w1 r tn p c tk s3) => show Calls Tryz.prog 47 #[.pointer (some ⟨r, 0, none⟩), .int .i64 65536] w1 fun e w' => e = .returned (.int .i64 (sp : Nat)) ∧ RdrAt w' r tn p c tk s4 ∧ w1.grownBy w' (some r) by have := small_any w1 65536 (by decide) (by decide) hh; rw [hC] at this; exact this)
  have HD := Lib.hid (fun w1 (hh : RdrAt w1 r tn p c tk s4) => show Calls Tryz.prog 45 #[.pointer (some ⟨r, 0, none⟩), .int .i64 1, .string wTable] w1 fun e w' => e = .returned (.tuple #[]) ∧ RdrAt w' r tn p c tk s5 ∧ w1.grownBy w' (some r) by have := must_any w1 1 wTable hh; rw [hD] at this; exact this)
  have HE := Lib.hid (fun w1 (hh : RdrAt w1 r tn p c tk s5) => show Calls Tryz.prog 44 #[.pointer (some ⟨r, 0, none⟩)] w1 fun e w' => e = .returned (.int .u64 (tb : Nat)) ∧ RdrAt w' r tn p c tk s6 ∧ w1.grownBy w' (some r) by have := number_any w1 hh; rw [hE] at this; exact this)
  unfold wTable at HD
  have hab : (((i : Nat) : Int) != ((x.cores.length : Nat) : Int)) = true := by exact bne_iff_ne.2 (by omega)
  have HK1 := Lib.hid (show x.cores.length + 1 ≤ maxLen by have := hS.sizes.cores; unfold maxLen; omega)
  have HK2 := Lib.hid (show (x.cores.length + 1) * 88 ≤ 140737488355328 by have := hS.sizes.cores; omega)
  have HK4 := Lib.hid (show n < 20000 by omega)
  have HK6 := Lib.hid (show x.pCo.length + 1 ≤ maxLen by have := hS.sizes.pCo; unfold maxLen; omega)
  have HK7 := Lib.hid (show (x.pCo.length + 1) * 8 ≤ 140737488355328 by have := hS.sizes.pCo; omega)
  have HK8 := Lib.hid (show n + 1 < 20000 by omega)
  have HK9 := Lib.hid (show x.pI.length + 1 ≤ maxLen by have := hS.sizes.pI; unfold maxLen; omega)
  have HK10 := Lib.hid (show (x.pI.length + 1) * 24 ≤ 140737488355328 by have := hS.sizes.pI; omega)
  have HK11 := Lib.hid (show n + 1 + 1 < 20000 by omega)
  have HS := Lib.hid hS
  have HR := Lib.hid hR
  obtain ⟨pT, cT, hvT, _⟩ := own_form hS.parts.cores.1
  have c2 := hS.blk.cell 2
  have hgl := hS.lt
  simp only [stC, List.getElem?_cons_zero, List.getElem?_cons_succ] at c2
  rw [hvT] at c2
  have HV := Lib.hid hvT
  clear hS hR hA hi hB hD hE hvT hC
  go_enter Tryz.func29, Tryz.ntmps29
  go_wp2_with fail
  refine (HA.out).mono ?_
  rintro e w1 ⟨rfl, hr, hg⟩
  have HS1 := Lib.hid (HS.out.rd hg HR.out.2.1)
  have HR1 := Lib.hid (HR.out.step hr hg)
  have HC1 := Lib.hid ((Acc.refl w f).rd hg HR.out.2.1)
  clear hr hg HA
  go_wp2_with fail
  refine (HF.out _ HR1.out.1).mono ?_
  rintro e w2 ⟨rfl, hr, hg⟩
  have HS2 := Lib.hid (HS1.out.rd hg HR1.out.2.1)
  have HR2 := Lib.hid (HR1.out.step hr hg)
  have HC2 := Lib.hid (HC1.out.rd hg HR1.out.2.1)
  clear hr hg HS1 HR1 HC1
  go_wp2_with fail
  have HBa := Lib.hid (below_alloc (Below.refl w2.heap.size w2) (.cells #[.slice none 0 0, .int .i64 0, .int .u64 0, .slice none 0 0, .slice none 0 0] 49))
  have HS3 := Lib.hid ((HS2.out.relab (own15_lt f _)).below HBa.out)
  have HR3 := Lib.hid ((HR2.out.relab (own15_lt f _)).below HBa.out)
  have HC3 := Lib.hid ((HC2.out.relab (own15_lt f _)).below HBa.out)
  have HF1 := Lib.hid (own15_same f w2.heap.size)
  have HT3 := Lib.hid (show Blk (w2.alloc (.cells #[.slice none 0 0, .int .i64 0, .int .u64 0, .slice none 0 0, .slice none 0 0] 49)) 49 w2.heap.size [.slice none 0 0, .int .i64 0, .int .u64 0, .slice none 0 0, .slice none 0 0] from Blk.new w2 _ _)
  have HL0 := Lib.hid (show r < w2.heap.size from HR2.out.1.lt)
  clear HS2 HR2 HC2
  generalize w2.alloc (.cells #[.slice none 0 0, .int .i64 0, .int .u64 0, .slice none 0 0, .slice none 0 0] 49) = w3 at *
  generalize own15 f w2.heap.size = f1 at *
  generalize w2.heap.size = h0 at *
  refine (HB.out _ HR3.out.1).mono ?_
  rintro e w4 ⟨rfl, hr, hg⟩
  have HS4 := Lib.hid (HS3.out.rd hg HR3.out.2.1)
  have HR4 := Lib.hid (HR3.out.step hr hg)
  have HC4 := Lib.hid (HC3.out.rd hg HR3.out.2.1)
  have HT4 := Lib.hid (HT3.out.kept hg (by intro e; injection e; have := HL0.out; omega))
  clear hr hg HS3 HR3 HC3 HT3
  go_wp2_with fail
  refine (HC.out _ HR4.out.1).mono ?_
  rintro e w5 ⟨rfl, hr, hg⟩
  have HS5 := Lib.hid (HS4.out.rd hg HR4.out.2.1)
  have HR5 := Lib.hid (HR4.out.step hr hg)
  have HC5 := Lib.hid (HC4.out.rd hg HR4.out.2.1)
  have HT5 := Lib.hid (HT4.out.kept hg (by intro e; injection e; have := HL0.out; omega))
  clear hr hg HS4 HR4 HC4 HT4
  have HS6 := Lib.hid (HS5.out.set15 HF1.out 1 (.int .i64 (sp : Nat)))
  have HR6 := Lib.hid (HR5.out.set15 HF1.out 1 (.int .i64 (sp : Nat)))
  have HC6 := Lib.hid (HC5.out.set (by rw [HF1.out]; decide) 1 (.int .i64 (sp : Nat)))
  have HT6 := Lib.hid (HT5.out.set 1 (.int .i64 (sp : Nat)))
  have a1 := HT5.out.cell 1
  have a2 := HT5.out.free 1
  have a3 := HT5.out.free 0
  have hh0 := HT5.out.lt
  simp only [List.getElem?_cons_zero, List.getElem?_cons_succ, List.set_cons_succ, List.set_cons_zero] at a1
  clear HS5 HR5 HC5 HT5
  go_wp2_with fail
  generalize w5.setCell ⟨h0, 1, none⟩ (.int .i64 (sp : Nat)) = w6 at *
  clear a1 a2
  refine (HD.out _ HR6.out.1).mono ?_
  rintro e w7 ⟨rfl, hr, hg⟩
  have HS7 := Lib.hid (HS6.out.rd hg HR6.out.2.1)
  have HR7 := Lib.hid (HR6.out.step hr hg)
  have HC7 := Lib.hid (HC6.out.rd hg HR6.out.2.1)
  have HT7 := Lib.hid (HT6.out.kept hg (by intro e; injection e; have := HL0.out; omega))
  clear hr hg HS6 HR6 HC6 HT6
  go_wp2_with fail
  refine (HE.out _ HR7.out.1).mono ?_
  rintro e w8 ⟨rfl, hr, hg⟩
  have HS8 := Lib.hid (HS7.out.rd hg HR7.out.2.1)
  have HR8 := Lib.hid (HR7.out.step hr hg)
  have HC8 := Lib.hid (HC7.out.rd hg HR7.out.2.1)
  have HT8 := Lib.hid (HT7.out.kept hg (by intro e; injection e; have := HL0.out; omega))
  clear hr hg HS7 HR7 HC7 HT7
  have HS9 := Lib.hid (HS8.out.set15 HF1.out 2 (.int .u64 (tb : Nat)))
  have HR9 := Lib.hid (HR8.out.set15 HF1.out 2 (.int .u64 (tb : Nat)))
  have HC9 := Lib.hid (HC8.out.set (by rw [HF1.out]; decide) 2 (.int .u64 (tb : Nat)))
  have HT9 := Lib.hid (HT8.out.set 2 (.int .u64 (tb : Nat)))
  have a1 := HT8.out.cell 2
  have a2 := HT8.out.free 2
  have a3 := HT8.out.free 0
  have hh0 := HT8.out.lt
  simp only [List.getElem?_cons_zero, List.getElem?_cons_succ, List.set_cons_succ, List.set_cons_zero] at a1
  clear HS8 HR8 HC8 HT8
  have a0 := HT9.out.cell 0
  simp only [List.getElem?_cons_zero, List.getElem?_cons_succ, List.set_cons_succ, List.set_cons_zero] at a0
  have hmk := mk31
  go_wp2_with fail
  clear a0 a1 a2 a3 hmk
  have hz : ((w8.setCell ⟨h0, 2, none⟩ (.int .u64 (tb : Nat))).setCell ⟨h0, 0, none⟩ (.slice (some ⟨w8.heap.size, 0, none⟩) 31 31)).heap.size = w8.heap.size := by simp
  have HSq := HS9.out.set15 HF1.out 0 (.slice (some ⟨w8.heap.size, 0, none⟩) 31 31)
  have HRq := HR9.out.set15 HF1.out 0 (.slice (some ⟨w8.heap.size, 0, none⟩) 31 31)
  have HCq := HC9.out.set (show f1 h0 ≠ 0 by rw [HF1.out]; decide) 0 (.slice (some ⟨w8.heap.size, 0, none⟩) 31 31)
  have HTq := HT9.out.set 0 (.slice (some ⟨w8.heap.size, 0, none⟩) 31 31)
  clear HS9 HR9 HC9 HT9
  generalize ((w8.setCell ⟨h0, 2, none⟩ (.int .u64 (tb : Nat))).setCell ⟨h0, 0, none⟩ (.slice (some ⟨w8.heap.size, 0, none⟩) 31 31)) = wq at *
  rw [← hz] at *
  clear hz
  have HBr := Lib.hid (below_alloc (Below.refl wq.heap.size wq) (.cells reg0 26))
  have HSb := Lib.hid ((HSq.relab (labAt_lt f1 _ (lab 10 x.cores.length))).below HBr.out)
  have HRb := Lib.hid ((HRq.relab (labAt_lt f1 _ (lab 10 x.cores.length))).below HBr.out)
  have HCb := Lib.hid ((HCq.relab (labAt_lt f1 _ (lab 10 x.cores.length))).below HBr.out)
  have HTb := Lib.hid (HTq.below HBr.out)
  have HOb := Lib.hid (regs_own wq f1 B (lab 10 x.cores.length) (Nat.le_trans HSq.le (Nat.le_of_lt HSq.lt)))
  clear HSq HRq HCq HTq HBr
  generalize labAt f1 wq.heap.size (lab 10 x.cores.length) = f2 at *
  generalize wq.alloc (.cells reg0 26) = wb at *
  generalize wq.heap.size = h1 at *
  have b0 := HTb.out.cell 0
  have b1 := HTb.out.cell 1
  have b2 := HTb.out.cell 2
  have b3 := HTb.out.cell 3
  have b4 := HTb.out.cell 4
  have hd2 := HSb.out.blk.cell 2
  have hgl2 := HSb.out.lt
  simp only [stC, List.set_cons_succ, List.set_cons_zero, List.getElem?_cons_zero, List.getElem?_cons_succ] at hd2 b0 b1 b2 b3 b4
  have HSD := Lib.hid (show ST wb.drew f2 B g n x v from HSb.out.below (Below.refl _ _).drew)
  have HOD := Lib.hid (show OwnL wb.drew f2 B (lab 10 x.cores.length) 26 1 (.slice (some ⟨h1, 0, none⟩) 31 31) 31 ((List.replicate 31 0).map u64V) from HOb.out)
  have HO2 := Lib.hid (show wb.drew.ownsRow B 49 5 (.slice pT x.cores.length cT) x.cores.length (coresC v.cvs x.cores) by rw [← HV.out]; exact HSD.out.parts.cores.1)
  have HK3 := Lib.hid (show B ≤ wb.drew.heap.size from Nat.le_trans HSb.out.le (Nat.le_of_lt hgl2))
  rw [HV.out] at hd2
  go_region_law? ((refine step_app1l rfl _ _ 25 rfl B 49 _ 5 88 el_core rfl (by decide) _ _ _ (by rfl) HO2.out [.slice (some ⟨h1, 0, none⟩) 31 31, .int .i64 (sp : Nat), .int .u64 (tb : Nat), .slice none 0 0, .slice none 0 0] rfl _ (by rfl) (by rfl) (by simp [Value.oneCell', u64V]) HK1.out HK2.out HK3.out ?_; intro v' w5 ho hg hk; obtain ⟨p3, c3, hv3, _⟩ := own_form ho; subst hv3; obtain ⟨f3, hA, hS3⟩ := HSD.out.app_cores ⟨.slice (some ⟨h1, 0, none⟩) 31 31, .slice none 0 0, .slice none 0 0⟩ ⟨List.replicate 31 0, sp, tb, [], []⟩ ⟨HOD.out, OwnL.nil _ _ _ _ _ _, OwnL.nil _ _ _ _ _ _⟩ ⟨Nat.zero_le _, Nat.zero_le _, rfl⟩ (by rw [HV.out]; exact hg) ho (by rw [HV.out]; exact hk) HK4.out; have hd := hA.blk.cell 2; have he := hA.blk.free 2; have hgl3 := hA.blk.lt; simp only [stC, List.getElem?_cons_zero, List.getElem?_cons_succ] at hd))
  all_goals
    have HRe := Lib.hid (hA.rdr (HRb.out.below (Below.refl _ _).drew) (by decide) (by decide) 2 (.slice p3 (x.cores.length + 1) c3))
    have HCe := Lib.hid (hA.acc (HCb.out.below (Below.refl _ _).drew) (by decide) 2 (.slice p3 (x.cores.length + 1) c3))
    have HSe := Lib.hid hS3
    clear hA hS3 hd he hd2 HSb HRb HCb HO2 HSD HOD HOb HTb b0 b1 b2 b3 b4
    generalize w5.setCell ⟨g, 2, none⟩ (.slice p3 (x.cores.length + 1) c3) = we at *
    have HOf := Lib.hid HSe.out.parts.pCo.1
    have HJf := Lib.hid (show B ≤ (we).heap.size from Nat.le_trans HSe.out.le (Nat.le_of_lt HSe.out.lt))
    obtain ⟨pf, cf, hvf, _⟩ := own_form HSe.out.parts.pCo.1
    have hglf := HSe.out.lt
    have df := HSe.out.blk.cell 13
    try simp only [stC, List.getElem?_cons_zero, List.getElem?_cons_succ] at df
    rw [hvf] at df HOf
    go_wp2_with (at_builtin; refine app1l rfl _ _ 33 rfl B 3 _ 1 8 el_int rfl (by decide) _ _ _ rfl HOf.out [i64V at_] rfl _ rfl (by simp) (by simp [Value.oneCell', i64V]) HK6.out HK7.out HJf.out ?_)
    intro vf wf ho hg hb hk
    obtain ⟨qf, ef, hqf, _⟩ := own_form ho
    subst hqf
    obtain ⟨ff, hA, hS⟩ := HSe.out.app_pCo at_ (by rw [hvf]; exact hg) ho (by rw [hvf]; exact hk) HK8.out
    have hdf := hA.blk.cell 13
    have hef := hA.blk.free 13
    have dnf := hA.blk.cell 14
    have fnf := hA.blk.free 14
    have hgmf := hA.blk.lt
    simp only [stC, List.getElem?_cons_zero, List.getElem?_cons_succ] at hdf dnf
    have HSf := Lib.hid hS
    have HRf := Lib.hid (hA.rdr HRe.out (by decide) (by decide) 13 (.slice qf (x.pCo.length + 1) ef))
    have HCf := Lib.hid (hA.acc HCe.out (by decide) 13 (.slice qf (x.pCo.length + 1) ef))
    clear hA hS HSe HRe HCe df HOf hvf ho hg hb hk
    have HSg := HSf
    have HRg := HRf
    have HCg := HCf
    obtain ⟨pg, cg, hvg, _⟩ := own_form HSf.out.parts.pI.1
    have HOg := Lib.hid (show (wf.setCell ⟨g, 13, none⟩ (.slice qf (x.pCo.length + 1) ef)).ownsRow B 33 1 (.slice pg x.pI.length cg) x.pI.length v.ivs by rw [← hvg]; exact HSg.out.parts.pI.1)
    have HJg := Lib.hid (show B ≤ (wf.setCell ⟨g, 13, none⟩ (.slice qf (x.pCo.length + 1) ef)).heap.size from Nat.le_trans HSg.out.le (Nat.le_of_lt HSg.out.lt))
    rw [hvg] at dnf
    clear HSf HRf HCf
    have hglf : g < wf.heap.size := hgmf
    iterate 60 (first | at_builtin | go_values | go_skip | go_guarded | go_step | go_upon | go_back)
    refine app1l rfl _ _ 34 rfl B 33 _ 1 24 el_rows rfl (by decide) _ _ _ rfl HOg.out [.slice none 0 0] rfl _ rfl (by simp) (by simp [Value.oneCell']) HK9.out HK10.out HJg.out ?_
    intro vg wg ho hg hb hk
    obtain ⟨qg, eg, hqg, _⟩ := own_form ho
    subst hqg
    obtain ⟨fg, hA, hS⟩ := HSg.out.app_pI (by rw [hvg]; exact hg) ho (by rw [hvg]; exact hk) HK11.out
    have hdg := hA.blk.cell 14
    have heg := hA.blk.free 14
    have dng := hA.blk.cell 16
    have fng := hA.blk.free 16
    have hgmg := hA.blk.lt
    simp only [stC, List.getElem?_cons_zero, List.getElem?_cons_succ] at hdg dng
    have HSz := Lib.hid (hS.put (x' := { x with cores := x.cores ++ [⟨List.replicate 31 0, sp, tb, [], []⟩], pCo := x.pCo ++ [at_], pI := x.pI ++ [[]], after := 2 }) (v' := _) (n' := n + 3) (j := 16) (u := .int .i64 2) rfl ⟨hS.parts.cells, hS.parts.cores, hS.parts.lenc, hS.parts.core, hS.parts.cond, hS.parts.tables, hS.parts.pT, hS.parts.pC, hS.parts.pCo, hS.parts.pI, hS.parts.leni, hS.parts.ins⟩ ⟨hS.sizes.cells, hS.sizes.cores, hS.sizes.tables, hS.sizes.pT, hS.sizes.pC, hS.sizes.pCo, hS.sizes.pI, hS.sizes.ins, hS.sizes.code⟩ hS.small)
    have HRz := Lib.hid ((hA.rdr HRg.out (by decide) (by decide) 14 (.slice qg (x.pI.length + 1) eg)).set hS.lg 16 (.int .i64 2))
    have HCz := Lib.hid ((hA.acc HCg.out (by decide) 14 (.slice qg (x.pI.length + 1) eg)).set (show fg g ≠ 0 by rw [hS.lg]; decide) 16 (.int .i64 2))
    clear hA hS ho hg hb hk HSg HRg HCg hvg
    go_wp2_with fail
    go_end0
    rw [HX.out]
    exact SomeST.of HSz.out HRz.out HCz.out
set_option maxRecDepth 100000 in
set_option maxHeartbeats 1600000 in
theorem core_no_ns {w : World} {f : Nat → Nat} {B g n r tn : Nat} {p : Option Addr} {c : Nat} {tk : List Tk} {s : RS} {x : SrcA} {v : SrcV} (hS : ST w f B g n x v) (hR : RdrL w f r tn p c tk s) (at_ : Int) (hn : n < 19000) {i tb : Nat} {s1 s3 s5 s6 : RS} (hA : smallR tk s 65536 = (i, s1)) (hi : ¬ i = x.cores.length) (hB : wIsR tk (faultR s1 110 at_) ⟨#[115, 112, 97, 99, 101]⟩ = (false, s3)) (hD : mustR tk s3 1 wTable = s5) (hE : numberR tk s5 = (tb, s6)) :
    Calls Tryz.prog 29 #[.pointer (some ⟨g, 0, none⟩), .pointer (some ⟨r, 0, none⟩), .int .i64 at_] w (SomeST w f B g (n + 3) r tn p c tk (coreR tk x s at_)) := by
  have HX := Lib.hid (show coreR tk x s at_ = ({ x with cores := x.cores ++ [⟨List.replicate 31 0, 0, tb, [], []⟩], pCo := x.pCo ++ [at_], pI := x.pI ++ [[]], after := 2 }, s6) by unfold coreR; simp only [hA, if_neg hi, hB, Bool.false_eq_true, if_false, hD, hE])
  have HA := Lib.hid (show Calls Tryz.prog 47 #[.pointer (some ⟨r, 0, none⟩), .int .i64 65536] w fun e w' => e = .returned (.int .i64 (i : Nat)) ∧ RdrAt w' r tn p c tk s1 ∧ w.grownBy w' (some r) by have := small_any w 65536 (by decide) (by decide) hR.1; rw [hA] at this; exact this)
  have HF := Lib.hid (fun w1 (hh : RdrAt w1 r tn p c tk s1) => fault_any w1 110 at_ hh)
  have HB := Lib.hid (fun w1 (hh : RdrAt w1 r tn p c tk (faultR s1 110 at_)) => show Calls Tryz.prog 49 #[.pointer (some ⟨r, 0, none⟩), .int .i64 1, .string ⟨#[115, 112, 97, 99, 101]⟩] w1 fun e w' => e = .returned (.bool false) ∧ RdrAt w' r tn p c tk s3 ∧ w1.grownBy w' (some r) by have := wis_any w1 ⟨#[115, 112, 97, 99, 101]⟩ hh; rw [hB] at this; exact this)
  have HD := Lib.hid (fun w1 (hh : RdrAt w1 r tn p c tk s3) => show Calls Tryz.prog 45 #[.pointer (some ⟨r, 0, none⟩), .int .i64 1, .string wTable] w1 fun e w' => e = .returned (.tuple #[]) ∧ RdrAt w' r tn p c tk s5 ∧ w1.grownBy w' (some r) by have := must_any w1 1 wTable hh; rw [hD] at this; exact this)
  have HE := Lib.hid (fun w1 (hh : RdrAt w1 r tn p c tk s5) => show Calls Tryz.prog 44 #[.pointer (some ⟨r, 0, none⟩)] w1 fun e w' => e = .returned (.int .u64 (tb : Nat)) ∧ RdrAt w' r tn p c tk s6 ∧ w1.grownBy w' (some r) by have := number_any w1 hh; rw [hE] at this; exact this)
  unfold wTable at HD
  have hab : (((i : Nat) : Int) != ((x.cores.length : Nat) : Int)) = true := by exact bne_iff_ne.2 (by omega)
  have HK1 := Lib.hid (show x.cores.length + 1 ≤ maxLen by have := hS.sizes.cores; unfold maxLen; omega)
  have HK2 := Lib.hid (show (x.cores.length + 1) * 88 ≤ 140737488355328 by have := hS.sizes.cores; omega)
  have HK4 := Lib.hid (show n < 20000 by omega)
  have HK6 := Lib.hid (show x.pCo.length + 1 ≤ maxLen by have := hS.sizes.pCo; unfold maxLen; omega)
  have HK7 := Lib.hid (show (x.pCo.length + 1) * 8 ≤ 140737488355328 by have := hS.sizes.pCo; omega)
  have HK8 := Lib.hid (show n + 1 < 20000 by omega)
  have HK9 := Lib.hid (show x.pI.length + 1 ≤ maxLen by have := hS.sizes.pI; unfold maxLen; omega)
  have HK10 := Lib.hid (show (x.pI.length + 1) * 24 ≤ 140737488355328 by have := hS.sizes.pI; omega)
  have HK11 := Lib.hid (show n + 1 + 1 < 20000 by omega)
  have HS := Lib.hid hS
  have HR := Lib.hid hR
  obtain ⟨pT, cT, hvT, _⟩ := own_form hS.parts.cores.1
  have c2 := hS.blk.cell 2
  have hgl := hS.lt
  simp only [stC, List.getElem?_cons_zero, List.getElem?_cons_succ] at c2
  rw [hvT] at c2
  have HV := Lib.hid hvT
  clear hS hR hA hi hB hD hE hvT 
  go_enter Tryz.func29, Tryz.ntmps29
  go_wp2_with fail
  refine (HA.out).mono ?_
  rintro e w1 ⟨rfl, hr, hg⟩
  have HS1 := Lib.hid (HS.out.rd hg HR.out.2.1)
  have HR1 := Lib.hid (HR.out.step hr hg)
  have HC1 := Lib.hid ((Acc.refl w f).rd hg HR.out.2.1)
  clear hr hg HA
  go_wp2_with fail
  refine (HF.out _ HR1.out.1).mono ?_
  rintro e w2 ⟨rfl, hr, hg⟩
  have HS2 := Lib.hid (HS1.out.rd hg HR1.out.2.1)
  have HR2 := Lib.hid (HR1.out.step hr hg)
  have HC2 := Lib.hid (HC1.out.rd hg HR1.out.2.1)
  clear hr hg HS1 HR1 HC1
  go_wp2_with fail
  have HBa := Lib.hid (below_alloc (Below.refl w2.heap.size w2) (.cells #[.slice none 0 0, .int .i64 0, .int .u64 0, .slice none 0 0, .slice none 0 0] 49))
  have HS3 := Lib.hid ((HS2.out.relab (own15_lt f _)).below HBa.out)
  have HR3 := Lib.hid ((HR2.out.relab (own15_lt f _)).below HBa.out)
  have HC3 := Lib.hid ((HC2.out.relab (own15_lt f _)).below HBa.out)
  have HF1 := Lib.hid (own15_same f w2.heap.size)
  have HT3 := Lib.hid (show Blk (w2.alloc (.cells #[.slice none 0 0, .int .i64 0, .int .u64 0, .slice none 0 0, .slice none 0 0] 49)) 49 w2.heap.size [.slice none 0 0, .int .i64 0, .int .u64 0, .slice none 0 0, .slice none 0 0] from Blk.new w2 _ _)
  have HL0 := Lib.hid (show r < w2.heap.size from HR2.out.1.lt)
  clear HS2 HR2 HC2
  generalize w2.alloc (.cells #[.slice none 0 0, .int .i64 0, .int .u64 0, .slice none 0 0, .slice none 0 0] 49) = w3 at *
  generalize own15 f w2.heap.size = f1 at *
  generalize w2.heap.size = h0 at *
  refine (HB.out _ HR3.out.1).mono ?_
  rintro e w4 ⟨rfl, hr, hg⟩
  have HS4 := Lib.hid (HS3.out.rd hg HR3.out.2.1)
  have HR4 := Lib.hid (HR3.out.step hr hg)
  have HC4 := Lib.hid (HC3.out.rd hg HR3.out.2.1)
  have HT4 := Lib.hid (HT3.out.kept hg (by intro e; injection e; have := HL0.out; omega))
  clear hr hg HS3 HR3 HC3 HT3
  go_wp2_with fail
  refine (HD.out _ HR4.out.1).mono ?_
  rintro e w7 ⟨rfl, hr, hg⟩
  have HS7 := Lib.hid (HS4.out.rd hg HR4.out.2.1)
  have HR7 := Lib.hid (HR4.out.step hr hg)
  have HC7 := Lib.hid (HC4.out.rd hg HR4.out.2.1)
  have HT7 := Lib.hid (HT4.out.kept hg (by intro e; injection e; have := HL0.out; omega))
  clear hr hg HS4 HR4 HC4 HT4
  go_wp2_with fail
  refine (HE.out _ HR7.out.1).mono ?_
  rintro e w8 ⟨rfl, hr, hg⟩
  have HS8 := Lib.hid (HS7.out.rd hg HR7.out.2.1)
  have HR8 := Lib.hid (HR7.out.step hr hg)
  have HC8 := Lib.hid (HC7.out.rd hg HR7.out.2.1)
  have HT8 := Lib.hid (HT7.out.kept hg (by intro e; injection e; have := HL0.out; omega))
  clear hr hg HS7 HR7 HC7 HT7
  have HS9 := Lib.hid (HS8.out.set15 HF1.out 2 (.int .u64 (tb : Nat)))
  have HR9 := Lib.hid (HR8.out.set15 HF1.out 2 (.int .u64 (tb : Nat)))
  have HC9 := Lib.hid (HC8.out.set (by rw [HF1.out]; decide) 2 (.int .u64 (tb : Nat)))
  have HT9 := Lib.hid (HT8.out.set 2 (.int .u64 (tb : Nat)))
  have a1 := HT8.out.cell 2
  have a2 := HT8.out.free 2
  have a3 := HT8.out.free 0
  have hh0 := HT8.out.lt
  simp only [List.getElem?_cons_zero, List.getElem?_cons_succ, List.set_cons_succ, List.set_cons_zero] at a1
  clear HS8 HR8 HC8 HT8
  have a0 := HT9.out.cell 0
  simp only [List.getElem?_cons_zero, List.getElem?_cons_succ, List.set_cons_succ, List.set_cons_zero] at a0
  have hmk := mk31
  go_wp2_with fail
  clear a0 a1 a2 a3 hmk
  have hz : ((w8.setCell ⟨h0, 2, none⟩ (.int .u64 (tb : Nat))).setCell ⟨h0, 0, none⟩ (.slice (some ⟨w8.heap.size, 0, none⟩) 31 31)).heap.size = w8.heap.size := by simp
  have HSq := HS9.out.set15 HF1.out 0 (.slice (some ⟨w8.heap.size, 0, none⟩) 31 31)
  have HRq := HR9.out.set15 HF1.out 0 (.slice (some ⟨w8.heap.size, 0, none⟩) 31 31)
  have HCq := HC9.out.set (show f1 h0 ≠ 0 by rw [HF1.out]; decide) 0 (.slice (some ⟨w8.heap.size, 0, none⟩) 31 31)
  have HTq := HT9.out.set 0 (.slice (some ⟨w8.heap.size, 0, none⟩) 31 31)
  clear HS9 HR9 HC9 HT9
  generalize ((w8.setCell ⟨h0, 2, none⟩ (.int .u64 (tb : Nat))).setCell ⟨h0, 0, none⟩ (.slice (some ⟨w8.heap.size, 0, none⟩) 31 31)) = wq at *
  rw [← hz] at *
  clear hz
  have HBr := Lib.hid (below_alloc (Below.refl wq.heap.size wq) (.cells reg0 26))
  have HSb := Lib.hid ((HSq.relab (labAt_lt f1 _ (lab 10 x.cores.length))).below HBr.out)
  have HRb := Lib.hid ((HRq.relab (labAt_lt f1 _ (lab 10 x.cores.length))).below HBr.out)
  have HCb := Lib.hid ((HCq.relab (labAt_lt f1 _ (lab 10 x.cores.length))).below HBr.out)
  have HTb := Lib.hid (HTq.below HBr.out)
  have HOb := Lib.hid (regs_own wq f1 B (lab 10 x.cores.length) (Nat.le_trans HSq.le (Nat.le_of_lt HSq.lt)))
  clear HSq HRq HCq HTq HBr
  generalize labAt f1 wq.heap.size (lab 10 x.cores.length) = f2 at *
  generalize wq.alloc (.cells reg0 26) = wb at *
  generalize wq.heap.size = h1 at *
  have b0 := HTb.out.cell 0
  have b1 := HTb.out.cell 1
  have b2 := HTb.out.cell 2
  have b3 := HTb.out.cell 3
  have b4 := HTb.out.cell 4
  have hd2 := HSb.out.blk.cell 2
  have hgl2 := HSb.out.lt
  simp only [stC, List.set_cons_succ, List.set_cons_zero, List.getElem?_cons_zero, List.getElem?_cons_succ] at hd2 b0 b1 b2 b3 b4
  have HSD := Lib.hid (show ST wb.drew f2 B g n x v from HSb.out.below (Below.refl _ _).drew)
  have HOD := Lib.hid (show OwnL wb.drew f2 B (lab 10 x.cores.length) 26 1 (.slice (some ⟨h1, 0, none⟩) 31 31) 31 ((List.replicate 31 0).map u64V) from HOb.out)
  have HO2 := Lib.hid (show wb.drew.ownsRow B 49 5 (.slice pT x.cores.length cT) x.cores.length (coresC v.cvs x.cores) by rw [← HV.out]; exact HSD.out.parts.cores.1)
  have HK3 := Lib.hid (show B ≤ wb.drew.heap.size from Nat.le_trans HSb.out.le (Nat.le_of_lt hgl2))
  rw [HV.out] at hd2
  go_region_law? ((refine step_app1l rfl _ _ 25 rfl B 49 _ 5 88 el_core rfl (by decide) _ _ _ (by rfl) HO2.out [.slice (some ⟨h1, 0, none⟩) 31 31, .int .i64 (0 : Nat), .int .u64 (tb : Nat), .slice none 0 0, .slice none 0 0] rfl _ (by rfl) (by rfl) (by simp [Value.oneCell', u64V]) HK1.out HK2.out HK3.out ?_; intro v' w5 ho hg hk; obtain ⟨p3, c3, hv3, _⟩ := own_form ho; subst hv3; obtain ⟨f3, hA, hS3⟩ := HSD.out.app_cores ⟨.slice (some ⟨h1, 0, none⟩) 31 31, .slice none 0 0, .slice none 0 0⟩ ⟨List.replicate 31 0, 0, tb, [], []⟩ ⟨HOD.out, OwnL.nil _ _ _ _ _ _, OwnL.nil _ _ _ _ _ _⟩ ⟨Nat.zero_le _, Nat.zero_le _, rfl⟩ (by rw [HV.out]; exact hg) ho (by rw [HV.out]; exact hk) HK4.out; have hd := hA.blk.cell 2; have he := hA.blk.free 2; have hgl3 := hA.blk.lt; simp only [stC, List.getElem?_cons_zero, List.getElem?_cons_succ] at hd))
  all_goals
    have HRe := Lib.hid (hA.rdr (HRb.out.below (Below.refl _ _).drew) (by decide) (by decide) 2 (.slice p3 (x.cores.length + 1) c3))
    have HCe := Lib.hid (hA.acc (HCb.out.below (Below.refl _ _).drew) (by decide) 2 (.slice p3 (x.cores.length + 1) c3))
    have HSe := Lib.hid hS3
    clear hA hS3 hd he hd2 HSb HRb HCb HO2 HSD HOD HOb HTb b0 b1 b2 b3 b4
    generalize w5.setCell ⟨g, 2, none⟩ (.slice p3 (x.cores.length + 1) c3) = we at *
    have HOf := Lib.hid HSe.out.parts.pCo.1
    have HJf := Lib.hid (show B ≤ (we).heap.size from Nat.le_trans HSe.out.le (Nat.le_of_lt HSe.out.lt))
    obtain ⟨pf, cf, hvf, _⟩ := own_form HSe.out.parts.pCo.1
    have hglf := HSe.out.lt
    have df := HSe.out.blk.cell 13
    try simp only [stC, List.getElem?_cons_zero, List.getElem?_cons_succ] at df
    rw [hvf] at df HOf
    go_wp2_with (at_builtin; refine app1l rfl _ _ 33 rfl B 3 _ 1 8 el_int rfl (by decide) _ _ _ rfl HOf.out [i64V at_] rfl _ rfl (by simp) (by simp [Value.oneCell', i64V]) HK6.out HK7.out HJf.out ?_)
    intro vf wf ho hg hb hk
    obtain ⟨qf, ef, hqf, _⟩ := own_form ho
    subst hqf
    obtain ⟨ff, hA, hS⟩ := HSe.out.app_pCo at_ (by rw [hvf]; exact hg) ho (by rw [hvf]; exact hk) HK8.out
    have hdf := hA.blk.cell 13
    have hef := hA.blk.free 13
    have dnf := hA.blk.cell 14
    have fnf := hA.blk.free 14
    have hgmf := hA.blk.lt
    simp only [stC, List.getElem?_cons_zero, List.getElem?_cons_succ] at hdf dnf
    have HSf := Lib.hid hS
    have HRf := Lib.hid (hA.rdr HRe.out (by decide) (by decide) 13 (.slice qf (x.pCo.length + 1) ef))
    have HCf := Lib.hid (hA.acc HCe.out (by decide) 13 (.slice qf (x.pCo.length + 1) ef))
    clear hA hS HSe HRe HCe df HOf hvf ho hg hb hk
    have HSg := HSf
    have HRg := HRf
    have HCg := HCf
    obtain ⟨pg, cg, hvg, _⟩ := own_form HSf.out.parts.pI.1
    have HOg := Lib.hid (show (wf.setCell ⟨g, 13, none⟩ (.slice qf (x.pCo.length + 1) ef)).ownsRow B 33 1 (.slice pg x.pI.length cg) x.pI.length v.ivs by rw [← hvg]; exact HSg.out.parts.pI.1)
    have HJg := Lib.hid (show B ≤ (wf.setCell ⟨g, 13, none⟩ (.slice qf (x.pCo.length + 1) ef)).heap.size from Nat.le_trans HSg.out.le (Nat.le_of_lt HSg.out.lt))
    rw [hvg] at dnf
    clear HSf HRf HCf
    have hglf : g < wf.heap.size := hgmf
    iterate 60 (first | at_builtin | go_values | go_skip | go_guarded | go_step | go_upon | go_back)
    refine app1l rfl _ _ 34 rfl B 33 _ 1 24 el_rows rfl (by decide) _ _ _ rfl HOg.out [.slice none 0 0] rfl _ rfl (by simp) (by simp [Value.oneCell']) HK9.out HK10.out HJg.out ?_
    intro vg wg ho hg hb hk
    obtain ⟨qg, eg, hqg, _⟩ := own_form ho
    subst hqg
    obtain ⟨fg, hA, hS⟩ := HSg.out.app_pI (by rw [hvg]; exact hg) ho (by rw [hvg]; exact hk) HK11.out
    have hdg := hA.blk.cell 14
    have heg := hA.blk.free 14
    have dng := hA.blk.cell 16
    have fng := hA.blk.free 16
    have hgmg := hA.blk.lt
    simp only [stC, List.getElem?_cons_zero, List.getElem?_cons_succ] at hdg dng
    have HSz := Lib.hid (hS.put (x' := { x with cores := x.cores ++ [⟨List.replicate 31 0, 0, tb, [], []⟩], pCo := x.pCo ++ [at_], pI := x.pI ++ [[]], after := 2 }) (v' := _) (n' := n + 3) (j := 16) (u := .int .i64 2) rfl ⟨hS.parts.cells, hS.parts.cores, hS.parts.lenc, hS.parts.core, hS.parts.cond, hS.parts.tables, hS.parts.pT, hS.parts.pC, hS.parts.pCo, hS.parts.pI, hS.parts.leni, hS.parts.ins⟩ ⟨hS.sizes.cells, hS.sizes.cores, hS.sizes.tables, hS.sizes.pT, hS.sizes.pC, hS.sizes.pCo, hS.sizes.pI, hS.sizes.ins, hS.sizes.code⟩ hS.small)
    have HRz := Lib.hid ((hA.rdr HRg.out (by decide) (by decide) 14 (.slice qg (x.pI.length + 1) eg)).set hS.lg 16 (.int .i64 2))
    have HCz := Lib.hid ((hA.acc HCg.out (by decide) 14 (.slice qg (x.pI.length + 1) eg)).set (show fg g ≠ 0 by rw [hS.lg]; decide) 16 (.int .i64 2))
    clear hA hS ho hg hb hk HSg HRg HCg hvg
    go_wp2_with fail
    go_end0
    rw [HX.out]
    exact SomeST.of HSz.out HRz.out HCz.out
theorem core_any {w : World} {f : Nat → Nat} {B g n r tn : Nat} {p : Option Addr} {c : Nat} {tk : List Tk} {s : RS} {x : SrcA} {v : SrcV} (hS : ST w f B g n x v) (hR : RdrL w f r tn p c tk s) (at_ : Int) (hn : n < 19000) :
    Calls Tryz.prog 29 #[.pointer (some ⟨g, 0, none⟩), .pointer (some ⟨r, 0, none⟩), .int .i64 at_] w (SomeST w f B g (n + 3) r tn p c tk (coreR tk x s at_)) := by
  rcases hA : smallR tk s 65536 with ⟨i, s1⟩
  by_cases hi : i = x.cores.length
  · rcases hB : wIsR tk s1 ⟨#[115, 112, 97, 99, 101]⟩ with ⟨bb, s3⟩
    cases bb with
    | true =>
      rcases hC : smallR tk s3 65536 with ⟨sp, s4⟩
      rcases hE : numberR tk (mustR tk s4 1 wTable) with ⟨tb, s6⟩
      exact core_ok_sp hS hR at_ hn hA hi hB hC rfl hE
    | false =>
      rcases hE : numberR tk (mustR tk s3 1 wTable) with ⟨tb, s6⟩
      exact core_ok_ns hS hR at_ hn hA hi hB rfl hE
  · rcases hB : wIsR tk (faultR s1 110 at_) ⟨#[115, 112, 97, 99, 101]⟩ with ⟨bb, s3⟩
    cases bb with
    | true =>
      rcases hC : smallR tk s3 65536 with ⟨sp, s4⟩
      rcases hE : numberR tk (mustR tk s4 1 wTable) with ⟨tb, s6⟩
      exact core_no_sp hS hR at_ hn hA hi hB hC rfl hE
    | false =>
      rcases hE : numberR tk (mustR tk s3 1 wTable) with ⟨tb, s6⟩
      exact core_no_ns hS hR at_ hn hA hi hB rfl hE
end Go.Proofs.YtcaifejfkpmeeaaGreat
