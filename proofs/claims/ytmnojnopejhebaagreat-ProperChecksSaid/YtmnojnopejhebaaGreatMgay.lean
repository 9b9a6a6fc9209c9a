/- lex.First. -/
import Derived.Test.YtmnojnopejhebaaGreatMgab
import Derived.Test.YtmnojnopejhebaaGreatMgat
import Derived.Test.YtmnojnopejhebaaGreatMgau
import Derived.Test.YtmnojnopejhebaaGreatMgaw
import Derived.Laws.OwnMore
import Derived.Deep.RegionLaw
namespace Go.Proofs.YtmnojnopejhebaaGreat
set_option linter.unusedVariables false
set_option linter.unusedSimpArgs false
set_option maxRecDepth 100000
set_option maxHeartbeats 25600000
section
open Go.RowKit
theorem n1z : El Tryz.prog 25 82 (.agg #[.slice none 0 0, .int .i64 0, .int .u64 0, .slice none 0 0, .slice none 0 0]) 5 88 := ⟨Tryz.underlying25, by kernel_rfl⟩
theorem n1y : El Tryz.prog 34 33 (.slice none 0 0) 1 24 := ⟨Tryz.underlying34, by kernel_rfl⟩
def reg0 : Array Value := ((List.replicate 31 0).map u64V).toArray
theorem d1v : madeCells (Value.int .u64 0).cells (31 * 1) = reg0 := by kernel_rfl
theorem d1w : reg0.toList = (List.replicate 31 0).map u64V := rfl
theorem mk31 (w : World) : (Instr.makeSlice 32 (.int .i64 31) (.int .i64 31)).run Tryz.prog w = .ok (.slice (some ⟨w.heap.size, 0, none⟩) 31 31) (w.alloc (.cells reg0 26)) := by
 obtain ⟨ht, hinfo⟩ := l1v
 obtain ⟨i, hi, hz0, hz1, hz2⟩ := info_parts hinfo
 have hr := run_make (P := Tryz.prog) w 32 26 i (.int .u64 0) ht hi hz0 .i64 .i64 31 31 (by decide) (Int.le_refl _) (by rw [hz2]; decide) (by decide)
 rw [hz1] at hr
 have e : (Int.toNat 31) = 31 := rfl
 rw [e, d1v] at hr
 exact hr
def m0s (f : Nat → Nat) (k l : Nat) : Nat → Nat := fun i => if i = k then l else f i
theorem m0r (f : Nat → Nat) (k l : Nat) : m0s f k l k = l := if_pos rfl
theorem i0i (f : Nat → Nat) (k l : Nat) : ∀ i, i < k → m0s f k l i = f i := fun i hi => if_neg (by omega)
theorem i1b (w : World) (f : Nat → Nat) (B l : Nat) (hB : B ≤ w.heap.size) : OwnL (w.alloc (.cells reg0 26)) (m0s f w.heap.size l) B l 26 1 (.slice (some ⟨w.heap.size, 0, none⟩) 31 31) 31 ((List.replicate 31 0).map u64V) :=
 ⟨⟨by simp, .inr ⟨_, 31, _, rfl, hB, heap_alloc_new w _, Nat.le_refl _, by decide, by simp [reg0], by rw [d1w]; simp⟩⟩, fun g hg => by simp only [Value.ownBlock, Option.some.injEq] at hg; subst hg; exact m0r _ _ _⟩
theorem OwnL.set15 {w : World} {f : Nat → Nat} {B l k : Nat} {e : TypeId} {size : Nat} {v : Value} {n : Nat} {xs : List Value} (h : OwnL w f B l e size v n xs) (hk : f k = 15) (hl : l ≠ 15) (j : Nat) (u : Value) : OwnL (w.setCell ⟨k, j, none⟩ u) f B l e size v n xs := h.gl (L := fun l => l = 15) ((GL.refl _ _ _).set hk j u) hl
theorem o0f {w : World} {f : Nat → Nat} {B g n r tn : Nat} {p : Option Addr} {c : Nat} {tk : List Tk} {s : RS} {x : SrcA} {v : SrcV} (hS : ST w f B g n x v) (hR : RdrL w f r tn p c tk s) (at_ : Int) (hn : n < 19000) {i sp tb : Nat} {s1 s2 s3 s4 s5 s6 : RS} {ok bs : Bool} (hA : b0d tk s 65536 = (i, s1)) (hok : decide (i = x.cores.length) = ok) (h2 : s2 = if ok then s1 else e0b s1 110 at_) (hB : wIsR tk s2 ⟨#[115, 112, 97, 99, 101]⟩ = (bs, s3)) (hC : if bs then b0d tk s3 65536 = (sp, s4) else sp = 0 ∧ s4 = s3) (hD : d0z tk s4 1 h0a = s5) (hE : a0c tk s5 = (tb, s6)) (hX : n0s tk x s at_ = ({ x with cores := x.cores ++ [⟨List.replicate 31 0, sp, tb, [], []⟩], pCo := x.pCo ++ [at_], pI := x.pI ++ [[]], after := 2 }, s6)) :
  Calls Tryz.prog 95 #[.pointer (some ⟨g, 0, none⟩), .pointer (some ⟨r, 0, none⟩), .int .i64 at_] w (d0d w f B g (n + 3) r tn p c tk (n0s tk x s at_)) := by
 have HX := h_ hX
 have HA := h_ (show Calls Tryz.prog 133 #[.pointer (some ⟨r, 0, none⟩), .int .i64 65536] w fun e w' => e = .returned (.int .i64 (i : Nat)) ∧ a0y w' r tn p c tk s1 ∧ w.grownBy w' (some r) by have := l0s w 65536 (by decide) (by decide) hR.1; rw [hA] at this; exact this)
 have HF := h_ (fun w1 (hh : a0y w1 r tn p c tk s1) => p0n w1 110 at_ hh)
 have HB := h_ (fun w1 (hh : a0y w1 r tn p c tk s2) => show Calls Tryz.prog 135 #[.pointer (some ⟨r, 0, none⟩), .int .i64 1, .string ⟨#[115, 112, 97, 99, 101]⟩] w1 fun e w' => e = .returned (.bool bs) ∧ a0y w' r tn p c tk s3 ∧ w1.grownBy w' (some r) by have := m0l w1 ⟨#[115, 112, 97, 99, 101]⟩ hh; rw [hB] at this; exact this)
 have HCq := h_ (fun (hbs : bs = true) w1 (hh : a0y w1 r tn p c tk s3) => show Calls Tryz.prog 133 #[.pointer (some ⟨r, 0, none⟩), .int .i64 65536] w1 fun e w' => e = .returned (.int .i64 (sp : Nat)) ∧ a0y w' r tn p c tk s4 ∧ w1.grownBy w' (some r) by have := l0s w1 65536 (by decide) (by decide) hh; rw [hbs, if_pos rfl] at hC; rw [hC] at this; exact this)
 have HCn := h_ (fun (hbs : bs = false) => show sp = 0 ∧ s4 = s3 from by rw [hbs] at hC; simpa using hC)
 have HD := h_ (fun w1 (hh : a0y w1 r tn p c tk s4) => show Calls Tryz.prog 131 #[.pointer (some ⟨r, 0, none⟩), .int .i64 1, .string h0a] w1 fun e w' => e = .returned (.tuple #[]) ∧ a0y w' r tn p c tk s5 ∧ w1.grownBy w' (some r) by have := j0n w1 1 h0a hh; rw [hD] at this; exact this)
 have HE := h_ (fun w1 (hh : a0y w1 r tn p c tk s5) => show Calls Tryz.prog 130 #[.pointer (some ⟨r, 0, none⟩)] w1 fun e w' => e = .returned (.int .u64 (tb : Nat)) ∧ a0y w' r tn p c tk s6 ∧ w1.grownBy w' (some r) by have := g0f w1 hh; rw [hE] at this; exact this)
 unfold h0a at HD
 have hab0 : (((i : Nat) : Int) != ((x.cores.length : Nat) : Int)) = !ok := by
  subst hok
  by_cases hi : i = x.cores.length <;> first | (simp [hi]; done) | (simp [hi]; omega)
 have HK1 := h_ (show x.cores.length + 1 ≤ maxLen by have := hS.sizes.cores; unfold maxLen; omega)
 have HK2 := h_ (show (x.cores.length + 1) * 88 ≤ 140737488355328 by have := hS.sizes.cores; omega)
 have HK4 := h_ (show n < 20000 by omega)
 have HK6 := h_ (show x.pCo.length + 1 ≤ maxLen by have := hS.sizes.pCo; unfold maxLen; omega)
 have HK7 := h_ (show (x.pCo.length + 1) * 8 ≤ 140737488355328 by have := hS.sizes.pCo; omega)
 have HK8 := h_ (show n + 1 < 20000 by omega)
 have HK9 := h_ (show x.pI.length + 1 ≤ maxLen by have := hS.sizes.pI; unfold maxLen; omega)
 have HK10 := h_ (show (x.pI.length + 1) * 24 ≤ 140737488355328 by have := hS.sizes.pI; omega)
 have HK11 := h_ (show n + 1 + 1 < 20000 by omega)
 have HS := h_ hS
 have HR := h_ hR
 obtain ⟨pT, cT, hvT, _⟩ := a0z hS.parts.cores.1
 have c2 := hS.blk.cell 2
 have hgl := hS.lt
 simp only [stC, gz_, gs_] at c2
 rw [hvT] at c2
 have HV := h_ hvT
 have HOK := h_ h2
 clear hS hR hA hok hB hD hE hvT hC hX h2
 go_enter Tryz.func95, Tryz.ntmps95
 go_wp2_with fail
 refine (HA.out).mono ?_
 rintro e w1 ⟨rfl, hr, hg⟩
 have HS1 := h_ (HS.out.rd hg HR.out.2.1)
 have HR1 := h_ (HR.out.step hr hg)
 have HC1 := h_ ((Acc.refl w f).rd hg HR.out.2.1)
 clear hr hg HA
 have h2 := HOK.out
 clear HOK
 cases ok
 have hab : (((i : Nat) : Int) != ((x.cores.length : Nat) : Int)) = true := hab0
 clear hab0
 simp only [Bool.false_eq_true, if_false] at h2
 subst h2
 go_wp2_with fail
 refine (HF.out _ HR1.out.1).mono ?_
 rintro e w2 ⟨rfl, hr, hg⟩
 have HS2 := h_ (HS1.out.rd hg HR1.out.2.1)
 have HR2 := h_ (HR1.out.step hr hg)
 have HC2 := h_ (HC1.out.rd hg HR1.out.2.1)
 clear hr hg HS1 HR1 HC1
 go_wp2_with fail
 rotate_left
 have hab : (((i : Nat) : Int) != ((x.cores.length : Nat) : Int)) = false := hab0
 clear hab0
 simp only [if_true] at h2
 subst h2
 go_wp2_with fail
 have HS2 := HS1
 have HR2 := HR1
 have HC2 := HC1
 clear HS1 HR1 HC1
 generalize w1 = w2 at *
 all_goals (
  have HBa := h_ (bl_ (Below.refl w2.heap.size w2) (.cells #[.slice none 0 0, .int .i64 0, .int .u64 0, .slice none 0 0, .slice none 0 0] 82))
  have HS3 := h_ ((HS2.out.relab (d0e f _)).below HBa.out)
  have HR3 := h_ ((HR2.out.relab (d0e f _)).below HBa.out)
  have HC3 := h_ ((HC2.out.relab (d0e f _)).below HBa.out)
  have HF1 := h_ (d0f f w2.heap.size)
  have HT3 := h_ (show Blk (w2.alloc (.cells #[.slice none 0 0, .int .i64 0, .int .u64 0, .slice none 0 0, .slice none 0 0] 82)) 82 w2.heap.size [.slice none 0 0, .int .i64 0, .int .u64 0, .slice none 0 0, .slice none 0 0] from Blk.new w2 _ _)
  have HL0 := h_ (show r < w2.heap.size from HR2.out.1.lt)
  clear HS2 HR2 HC2
  generalize w2.alloc (.cells #[.slice none 0 0, .int .i64 0, .int .u64 0, .slice none 0 0, .slice none 0 0] 82) = w3 at *
  generalize e0s f w2.heap.size = f1 at *
  generalize w2.heap.size = h0 at *
  refine (HB.out _ HR3.out.1).mono ?_
  rintro e w4 ⟨rfl, hr, hg⟩
  have HS4 := h_ (HS3.out.rd hg HR3.out.2.1)
  have HR4 := h_ (HR3.out.step hr hg)
  have HC4 := h_ (HC3.out.rd hg HR3.out.2.1)
  have HT4 := h_ (HT3.out.kept hg (by intro e; injection e; have := HL0.out; omega))
  clear hr hg HS3 HR3 HC3 HT3
  cases bs
  obtain ⟨hsp, rfl⟩ := HCn.out (by trivial)
  go_wp2_with fail
  have HS6 := HS4
  have HR6 := HR4
  have HC6 := HC4
  have HT6 := h_ (show Blk w4 82 h0 [.slice none 0 0, .int .i64 (sp : Nat), .int .u64 0, .slice none 0 0, .slice none 0 0] from by rw [hsp]; exact HT4.out)
  clear HS4 HR4 HC4 HT4 hsp
  generalize w4 = w6 at *
  rotate_left
  go_wp2_with fail
  refine (HCq.out (by trivial) _ HR4.out.1).mono ?_
  rintro e w5 ⟨rfl, hr, hg⟩
  have HS5 := h_ (HS4.out.rd hg HR4.out.2.1)
  have HR5 := h_ (HR4.out.step hr hg)
  have HC5 := h_ (HC4.out.rd hg HR4.out.2.1)
  have HT5 := h_ (HT4.out.kept hg (by intro e; injection e; have := HL0.out; omega))
  clear hr hg HS4 HR4 HC4 HT4
  have HS6 := h_ (HS5.out.set15 HF1.out 1 (.int .i64 (sp : Nat)))
  have HR6 := h_ (HR5.out.set15 HF1.out 1 (.int .i64 (sp : Nat)))
  have HC6 := h_ (HC5.out.set (by rw [HF1.out]; decide) 1 (.int .i64 (sp : Nat)))
  have HT6 := h_ (HT5.out.set 1 (.int .i64 (sp : Nat)))
  have a1 := HT5.out.cell 1
  have a2 := HT5.out.free 1
  have a3 := HT5.out.free 0
  have hh0 := HT5.out.lt
  simp only [gz_, gs_, List.set_cons_succ, List.set_cons_zero] at a1
  clear HS5 HR5 HC5 HT5
  go_wp2_with fail
  generalize w5.setCell ⟨h0, 1, none⟩ (.int .i64 (sp : Nat)) = w6 at *
  clear a1 a2
  all_goals (
   refine (HD.out _ HR6.out.1).mono ?_
   rintro e w7 ⟨rfl, hr, hg⟩
   have HS7 := h_ (HS6.out.rd hg HR6.out.2.1)
   have HR7 := h_ (HR6.out.step hr hg)
   have HC7 := h_ (HC6.out.rd hg HR6.out.2.1)
   have HT7 := h_ (HT6.out.kept hg (by intro e; injection e; have := HL0.out; omega))
   clear hr hg HS6 HR6 HC6 HT6
   go_wp2_with fail
   refine (HE.out _ HR7.out.1).mono ?_
   rintro e w8 ⟨rfl, hr, hg⟩
   have HS8 := h_ (HS7.out.rd hg HR7.out.2.1)
   have HR8 := h_ (HR7.out.step hr hg)
   have HC8 := h_ (HC7.out.rd hg HR7.out.2.1)
   have HT8 := h_ (HT7.out.kept hg (by intro e; injection e; have := HL0.out; omega))
   clear hr hg HS7 HR7 HC7 HT7
   have HS9 := h_ (HS8.out.set15 HF1.out 2 (.int .u64 (tb : Nat)))
   have HR9 := h_ (HR8.out.set15 HF1.out 2 (.int .u64 (tb : Nat)))
   have HC9 := h_ (HC8.out.set (by rw [HF1.out]; decide) 2 (.int .u64 (tb : Nat)))
   have HT9 := h_ (HT8.out.set 2 (.int .u64 (tb : Nat)))
   have a1 := HT8.out.cell 2
   have a2 := HT8.out.free 2
   have a3 := HT8.out.free 0
   have hh0 := HT8.out.lt
   simp only [gz_, gs_, List.set_cons_succ, List.set_cons_zero] at a1
   clear HS8 HR8 HC8 HT8
   have a0 := HT9.out.cell 0
   simp only [gz_, gs_, List.set_cons_succ, List.set_cons_zero] at a0
   have hmk := mk31
   go_wp2_with fail
   clear a0 a1 a2 a3 hmk
   have hz : ((w8.setCell ⟨h0, 2, none⟩ (.int .u64 (tb : Nat))).setCell ⟨h0, 0, none⟩ (.slice (some ⟨w8.heap.size, 0, none⟩) 31 31)).heap.size = w8.heap.size := by simp
   have HSq := HS9.out.set15 HF1.out 0 (.slice (some ⟨w8.heap.size, 0, none⟩) 31 31)
   have HRq := HR9.out.set15 HF1.out 0 (.slice (some ⟨w8.heap.size, 0, none⟩) 31 31)
   have HCq := HC9.out.set (show f1 h0 ≠ 0 by rw [HF1.out]; decide) 0 (.slice (some ⟨w8.heap.size, 0, none⟩) 31 31)
   have HTq := HT9.out.set 0 (.slice (some ⟨w8.heap.size, 0, none⟩) 31 31)
   clear HS9 HR9 HC9 HT9
   generalize ((w8.setCell ⟨h0, 2, none⟩ (.int .u64 (tb : Nat))).setCell ⟨h0, 0, none⟩ (.slice (some ⟨w8.heap.size, 0, none⟩) 31 31)) = wq at *
   rw [← hz] at *
   clear hz
   have HBr := h_ (bl_ (Below.refl wq.heap.size wq) (.cells reg0 26))
   have HSb := h_ ((HSq.relab (i0i f1 _ (lab 10 x.cores.length))).below HBr.out)
   have HRb := h_ ((HRq.relab (i0i f1 _ (lab 10 x.cores.length))).below HBr.out)
   have HCb := h_ ((HCq.relab (i0i f1 _ (lab 10 x.cores.length))).below HBr.out)
   have HTb := h_ (HTq.below HBr.out)
   have HOb := h_ (i1b wq f1 B (lab 10 x.cores.length) (Nat.le_trans HSq.le (Nat.le_of_lt HSq.lt)))
   clear HSq HRq HCq HTq HBr
   generalize m0s f1 wq.heap.size (lab 10 x.cores.length) = f2 at *
   generalize wq.alloc (.cells reg0 26) = wb at *
   generalize wq.heap.size = h1 at *
   have b0 := HTb.out.cell 0
   have b1 := HTb.out.cell 1
   have b2 := HTb.out.cell 2
   have b3 := HTb.out.cell 3
   have b4 := HTb.out.cell 4
   have hd2 := HSb.out.blk.cell 2
   have hgl2 := HSb.out.lt
   simp only [stC, List.set_cons_succ, List.set_cons_zero, gz_, gs_] at hd2 b0 b1 b2 b3 b4
   have HSD := h_ (show ST wb.drew f2 B g n x v from HSb.out.below (Below.refl _ _).drew)
   have HOD := h_ (show OwnL wb.drew f2 B (lab 10 x.cores.length) 26 1 (.slice (some ⟨h1, 0, none⟩) 31 31) 31 ((List.replicate 31 0).map u64V) from HOb.out)
   have HO2 := h_ (show wb.drew.ownsRow B 82 5 (.slice pT x.cores.length cT) x.cores.length (e0f v.cvs x.cores) by rw [← HV.out]; exact HSD.out.parts.cores.1)
   have HK3 := h_ (show B ≤ wb.drew.heap.size from Nat.le_trans HSb.out.le (Nat.le_of_lt hgl2))
   rw [HV.out] at hd2
   go_region_law? ((refine f0b rfl _ _ 25 rfl B 82 _ 5 88 n1z rfl (by decide) _ _ _ (by rfl) HO2.out [.slice (some ⟨h1, 0, none⟩) 31 31, .int .i64 (sp : Nat), .int .u64 (tb : Nat), .slice none 0 0, .slice none 0 0] rfl _ (by rfl) (by rfl) (by simp [Value.oneCell', u64V]) HK1.out HK2.out HK3.out ?_; intro v' w5 ho hg hk; obtain ⟨p3, c3, hv3, _⟩ := a0z ho; subst hv3; obtain ⟨f3, hA, hS3⟩ := HSD.out.app_cores ⟨.slice (some ⟨h1, 0, none⟩) 31 31, .slice none 0 0, .slice none 0 0⟩ ⟨List.replicate 31 0, sp, tb, [], []⟩ ⟨HOD.out, OwnL.nil _ _ _ _ _ _, OwnL.nil _ _ _ _ _ _⟩ ⟨Nat.zero_le _, Nat.zero_le _, rfl⟩ (by rw [HV.out]; exact hg) ho (by rw [HV.out]; exact hk) HK4.out; have hd := hA.blk.cell 2; have he := hA.blk.free 2; have hgl3 := hA.blk.lt; simp only [stC, gz_, gs_] at hd))
   all_goals
    have HRe := h_ (hA.rdr (HRb.out.below (Below.refl _ _).drew) (by decide) (by decide) 2 (.slice p3 (x.cores.length + 1) c3))
    have HCe := h_ (hA.acc (HCb.out.below (Below.refl _ _).drew) (by decide) 2 (.slice p3 (x.cores.length + 1) c3))
    have HSe := h_ hS3
    clear hA hS3 hd he hd2 HSb HRb HCb HO2 HSD HOD HOb HTb b0 b1 b2 b3 b4
    generalize w5.setCell ⟨g, 2, none⟩ (.slice p3 (x.cores.length + 1) c3) = we at *
    have HOf := h_ HSe.out.parts.pCo.1
    have HJf := h_ (show B ≤ (we).heap.size from Nat.le_trans HSe.out.le (Nat.le_of_lt HSe.out.lt))
    obtain ⟨pf, cf, hvf, _⟩ := a0z HSe.out.parts.pCo.1
    have hglf := HSe.out.lt
    have df := HSe.out.blk.cell 13
    try simp only [stC, gz_, gs_] at df
    rw [hvf] at df HOf
    go_wp2_with (at_builtin; refine k1u rfl _ _ 33 rfl B 3 _ 1 8 p0q rfl (by decide) _ _ _ rfl HOf.out [i64V at_] rfl _ rfl (by simp) (by simp [Value.oneCell', i64V]) HK6.out HK7.out HJf.out ?_)
    intro vf wf ho hg hb hk
    obtain ⟨qf, ef, hqf, _⟩ := a0z ho
    subst hqf
    obtain ⟨ff, hA, hS⟩ := HSe.out.app_pCo at_ (by rw [hvf]; exact hg) ho (by rw [hvf]; exact hk) HK8.out
    have hdf := hA.blk.cell 13
    have hef := hA.blk.free 13
    have dnf := hA.blk.cell 14
    have fnf := hA.blk.free 14
    have hgmf := hA.blk.lt
    simp only [stC, gz_, gs_] at hdf dnf
    have HSf := h_ hS
    have HRf := h_ (hA.rdr HRe.out (by decide) (by decide) 13 (.slice qf (x.pCo.length + 1) ef))
    have HCf := h_ (hA.acc HCe.out (by decide) 13 (.slice qf (x.pCo.length + 1) ef))
    clear hA hS HSe HRe HCe df HOf hvf ho hg hb hk
    have HSg := HSf
    have HRg := HRf
    have HCg := HCf
    obtain ⟨pg, cg, hvg, _⟩ := a0z HSf.out.parts.pI.1
    have HOg := h_ (show (wf.setCell ⟨g, 13, none⟩ (.slice qf (x.pCo.length + 1) ef)).ownsRow B 33 1 (.slice pg x.pI.length cg) x.pI.length v.ivs by rw [← hvg]; exact HSg.out.parts.pI.1)
    have HJg := h_ (show B ≤ (wf.setCell ⟨g, 13, none⟩ (.slice qf (x.pCo.length + 1) ef)).heap.size from Nat.le_trans HSg.out.le (Nat.le_of_lt HSg.out.lt))
    rw [hvg] at dnf
    clear HSf HRf HCf
    have hglf : g < wf.heap.size := hgmf
    iterate 60 (first | at_builtin | go_values | go_skip | go_guarded | go_step | go_upon | go_back)
    refine k1u rfl _ _ 34 rfl B 33 _ 1 24 n1y rfl (by decide) _ _ _ rfl HOg.out [.slice none 0 0] rfl _ rfl (by simp) (by simp [Value.oneCell']) HK9.out HK10.out HJg.out ?_
    intro vg wg ho hg hb hk
    obtain ⟨qg, eg, hqg, _⟩ := a0z ho
    subst hqg
    obtain ⟨fg, hA, hS⟩ := HSg.out.app_pI (by rw [hvg]; exact hg) ho (by rw [hvg]; exact hk) HK11.out
    have hdg := hA.blk.cell 14
    have heg := hA.blk.free 14
    have dng := hA.blk.cell 16
    have fng := hA.blk.free 16
    have hgmg := hA.blk.lt
    simp only [stC, gz_, gs_] at hdg dng
    have HSz := h_ (hS.put (x' := { x with cores := x.cores ++ [⟨List.replicate 31 0, sp, tb, [], []⟩], pCo := x.pCo ++ [at_], pI := x.pI ++ [[]], after := 2 }) (v' := _) (n' := n + 3) (j := 16) (u := .int .i64 2) rfl ⟨hS.parts.cells, hS.parts.cores, hS.parts.lenc, hS.parts.core, hS.parts.cond, hS.parts.tables, hS.parts.pT, hS.parts.pC, hS.parts.pCo, hS.parts.pI, hS.parts.leni, hS.parts.ins⟩ ⟨hS.sizes.cells, hS.sizes.cores, hS.sizes.tables, hS.sizes.pT, hS.sizes.pC, hS.sizes.pCo, hS.sizes.pI, hS.sizes.ins, hS.sizes.code⟩ hS.small)
    have HRz := h_ ((hA.rdr HRg.out (by decide) (by decide) 14 (.slice qg (x.pI.length + 1) eg)).set hS.lg 16 (.int .i64 2))
    have HCz := h_ ((hA.acc HCg.out (by decide) 14 (.slice qg (x.pI.length + 1) eg)).set (show fg g ≠ 0 by rw [hS.lg]; decide) 16 (.int .i64 2))
    clear hA hS ho hg hb hk HSg HRg HCg hvg
    go_wp2_with fail
    go_end0
    rw [HX.out]
    exact d0d.of HSz.out HRz.out HCz.out))
theorem k1i {w : World} {f : Nat → Nat} {B g n r tn : Nat} {p : Option Addr} {c : Nat} {tk : List Tk} {s : RS} {x : SrcA} {v : SrcV} (hS : ST w f B g n x v) (hR : RdrL w f r tn p c tk s) (at_ : Int) (hn : n < 19000) :
  Calls Tryz.prog 95 #[.pointer (some ⟨g, 0, none⟩), .pointer (some ⟨r, 0, none⟩), .int .i64 at_] w (d0d w f B g (n + 3) r tn p c tk (n0s tk x s at_)) := by
 rcases hA : b0d tk s 65536 with ⟨i, s1⟩
 by_cases hi : i = x.cores.length
 ·rcases hB : wIsR tk s1 ⟨#[115, 112, 97, 99, 101]⟩ with ⟨bb, s3⟩
  cases bb with
  | true =>
   rcases hC : b0d tk s3 65536 with ⟨sp, s4⟩
   rcases hE : a0c tk (d0z tk s4 1 h0a) with ⟨tb, s6⟩
   exact o0f (ok := true) (bs := true) hS hR at_ hn hA (decide_eq_true hi) rfl hB hC rfl hE (by unfold n0s; simp only [hA, if_pos hi, hB, if_true, hC, hE])
  | false =>
   rcases hE : a0c tk (d0z tk s3 1 h0a) with ⟨tb, s6⟩
   exact o0f (ok := true) (bs := false) hS hR at_ hn hA (decide_eq_true hi) rfl hB ⟨rfl, rfl⟩ rfl hE (by unfold n0s; simp only [hA, if_pos hi, hB, Bool.false_eq_true, if_false, hE])
 ·rcases hB : wIsR tk (e0b s1 110 at_) ⟨#[115, 112, 97, 99, 101]⟩ with ⟨bb, s3⟩
  cases bb with
  | true =>
   rcases hC : b0d tk s3 65536 with ⟨sp, s4⟩
   rcases hE : a0c tk (d0z tk s4 1 h0a) with ⟨tb, s6⟩
   exact o0f (ok := false) (bs := true) hS hR at_ hn hA (decide_eq_false hi) rfl hB hC rfl hE (by unfold n0s; simp only [hA, if_neg hi, hB, if_true, hC, hE])
  | false =>
   rcases hE : a0c tk (d0z tk s3 1 h0a) with ⟨tb, s6⟩
   exact o0f (ok := false) (bs := false) hS hR at_ hn hA (decide_eq_false hi) rfl hB ⟨rfl, rfl⟩ rfl hE (by unfold n0s; simp only [hA, if_neg hi, hB, Bool.false_eq_true, if_false, hE])
end
section
open Go.RowKit
theorem s0b {w : World} {f : Nat → Nat} {B g n : Nat} {x : SrcA} {v : SrcV} (hS : ST w f B g n x v) :
  Calls Tryz.prog 122 #[.pointer (some ⟨g, 0, none⟩)] w fun e w' => ∃ q, e = .returned (.pointer q) ∧ w' = w := by
 cases h : x.cores.length with
 | zero => exact (p0h hS h).mono fun e w' hh => ⟨none, hh⟩
 | succ m =>
  obtain ⟨pT, cT, hvT, _⟩ := a0z hS.parts.cores.1
  cases pT with
  | none =>
   have hh := hS.parts.cores.1.2
   rw [hvT, h] at hh
   rcases hh with ⟨_, h2⟩ | ⟨_, _, _, h2, _⟩
   ·omega
   ·cases h2
  | some a =>
   have hh := hS.parts.cores.1.2
   rw [hvT, h] at hh
   rcases hh with ⟨_, h2⟩ | ⟨gc, cap, _, h2, _⟩
   ·omega
   ·injection h2 with e1 e2 e3
    injection e1 with e1
    subst e1; subst e3
    exact (h0v hS m h gc cT (by rw [hvT, h])).mono fun e w' hh => ⟨_, hh⟩
theorem x0k {w : World} {f : Nat → Nat} {B g n r tn : Nat} {p : Option Addr} {c : Nat} {tk : List Tk} {s : RS} {x : SrcA} {v : SrcV} (hS : ST w f B g n x v) (hR : RdrL w f r tn p c tk s) (hn : n < 19000) {tk1 ta : Int} {tt : ByteArray} (hP : a0p tk s = (tk1, tt, ta)) (hk : ¬ tk1 = 1) {j : Int} {ok : Bool} (hN : n0q (regN tt) = .tuple #[.int .i64 j, .bool ok]) :
  Calls Tryz.prog 96 #[.pointer (some ⟨g, 0, none⟩), .pointer (some ⟨r, 0, none⟩)] w (d0d w f B g (n + 1) r tn p c tk (f0k tk x s)) := by
 have HX := h_ (show f0k tk x s = (x, e0e tk s 110) by unfold f0k; rw [if_neg]; simp [m0o, hP, hk])
 have HP := h_ (show Calls Tryz.prog 127 #[.pointer (some ⟨r, 0, none⟩)] w fun e w' => e = .returned (.agg #[.int .i64 tk1, .string tt, .int .i64 ta]) ∧ Below w.heap.size w w' by have := d0t w hR.1; rw [hP] at this; exact this)
 have HN := h_ (fun w1 => show Calls Tryz.prog 136 #[.string tt] w1 fun e w' => e = .returned (.tuple #[.int .i64 j, .bool ok]) ∧ ∃ m, w' = w1.drewN m by have := d0k tt w1; rw [hN] at this; exact this)
 have HS := h_ hS
 have HR := h_ hR
 clear hS hR hP hN
 go_enter Tryz.func96, Tryz.ntmps96
 go_wp2_with fail
 refine (HP.out).mono ?_
 rintro e w2 ⟨rfl, hb⟩
 have hz := hb.size
 have HB := h_ (bl_ hb (.cells #[.int .i64 tk1, .string tt, .int .i64 ta] 147))
 have HT2 := h_ (show Blk (w2.alloc (.cells #[.int .i64 tk1, .string tt, .int .i64 ta] 147)) 147 w2.heap.size [.int .i64 tk1, .string tt, .int .i64 ta] from Blk.new w2 _ _)
 have HS2 := h_ (HS.out.below HB.out)
 have HR2 := h_ (HR.out.below HB.out)
 have HC2 := h_ ((Acc.refl w f).below HB.out)
 clear hb HP
 go_wp2_with fail
 generalize w2.alloc (.cells #[.int .i64 tk1, .string tt, .int .i64 ta] 147) = w3 at *
 generalize w2.heap.size = h0 at *
 refine (HN.out _).mono ?_
 rintro e w' ⟨rfl, m, rfl⟩
 have HS3 := h_ (show ST (w3.drewN m) f B g n x v from HS2.out.below (bd_ (Below.refl _ _) m))
 have HR3 := h_ (show RdrL (w3.drewN m) f r tn p c tk s from HR2.out.below (bd_ (Below.refl _ _) m))
 have HC3 := h_ (show Acc w f (w3.drewN m) f from HC2.out.below (bd_ (Below.refl _ _) m))
 have HT3 := h_ (HT2.out.dn m)
 clear HS2 HR2 HC2 HT2 HN
 generalize w3.drewN m = w4 at *
 go_wp2_with fail
 refine (s0b HS3.out).mono ?_
 rintro e w' ⟨q, rfl, rfl⟩
 have b0 := HT3.out.cell 0
 simp only [gz_] at b0
 have hkb : (tk1 != 1) = true := bne_iff_ne.2 hk
 have hh0 := HT3.out.lt
 go_wp2_with fail
 refine (e0j _ 110 HR3.out.1).mono ?_
 rintro e w9 ⟨rfl, hr, hg⟩
 have HS9 := h_ ((HS3.out.rd hg HR3.out.2.1).mono (show n ≤ n + 1 by omega) (by omega))
 have HR9 := h_ (HR3.out.step hr hg)
 have HC9 := h_ (HC3.out.rd hg HR3.out.2.1)
 clear hr hg
 go_wp2_with fail
 go_end0
 rw [HX.out]
 exact d0d.of HS9.out HR9.out HC9.out
theorem i1d {w : World} {f : Nat → Nat} {B g n r tn : Nat} {p : Option Addr} {c : Nat} {tk : List Tk} {s : RS} {x : SrcA} {v : SrcV} (hS : ST w f B g n x v) (hR : RdrL w f r tn p c tk s) (hn : n < 19000) {ta : Int} {tt : ByteArray} (hP : a0p tk s = (1, tt, ta)) (hr : regN tt = none) {j : Int} (hN : n0q (regN tt) = .tuple #[.int .i64 j, .bool false]) :
  Calls Tryz.prog 96 #[.pointer (some ⟨g, 0, none⟩), .pointer (some ⟨r, 0, none⟩)] w (d0d w f B g (n + 1) r tn p c tk (f0k tk x s)) := by
 have HX := h_ (show f0k tk x s = (x, e0e tk s 110) by unfold f0k; rw [if_neg]; simp [m0o, hP, hr])
 have HP := h_ (show Calls Tryz.prog 127 #[.pointer (some ⟨r, 0, none⟩)] w fun e w' => e = .returned (.agg #[.int .i64 1, .string tt, .int .i64 ta]) ∧ Below w.heap.size w w' by have := d0t w hR.1; rw [hP] at this; exact this)
 have HN := h_ (fun w1 => show Calls Tryz.prog 136 #[.string tt] w1 fun e w' => e = .returned (.tuple #[.int .i64 j, .bool false]) ∧ ∃ m, w' = w1.drewN m by have := d0k tt w1; rw [hN] at this; exact this)
 have HS := h_ hS
 have HR := h_ hR
 clear hS hR hP hN
 go_enter Tryz.func96, Tryz.ntmps96
 go_wp2_with fail
 refine (HP.out).mono ?_
 rintro e w2 ⟨rfl, hb⟩
 have hz := hb.size
 have HB := h_ (bl_ hb (.cells #[.int .i64 1, .string tt, .int .i64 ta] 147))
 have HT2 := h_ (show Blk (w2.alloc (.cells #[.int .i64 1, .string tt, .int .i64 ta] 147)) 147 w2.heap.size [.int .i64 1, .string tt, .int .i64 ta] from Blk.new w2 _ _)
 have HS2 := h_ (HS.out.below HB.out)
 have HR2 := h_ (HR.out.below HB.out)
 have HC2 := h_ ((Acc.refl w f).below HB.out)
 clear hb HP
 go_wp2_with fail
 generalize w2.alloc (.cells #[.int .i64 1, .string tt, .int .i64 ta] 147) = w3 at *
 generalize w2.heap.size = h0 at *
 refine (HN.out _).mono ?_
 rintro e w' ⟨rfl, m, rfl⟩
 have HS3 := h_ (show ST (w3.drewN m) f B g n x v from HS2.out.below (bd_ (Below.refl _ _) m))
 have HR3 := h_ (show RdrL (w3.drewN m) f r tn p c tk s from HR2.out.below (bd_ (Below.refl _ _) m))
 have HC3 := h_ (show Acc w f (w3.drewN m) f from HC2.out.below (bd_ (Below.refl _ _) m))
 have HT3 := h_ (HT2.out.dn m)
 clear HS2 HR2 HC2 HT2 HN
 generalize w3.drewN m = w4 at *
 go_wp2_with fail
 refine (s0b HS3.out).mono ?_
 rintro e w' ⟨q, rfl, rfl⟩
 have b0 := HT3.out.cell 0
 simp only [gz_] at b0
 have hh0 := HT3.out.lt
 go_wp2_with fail
 refine (e0j _ 110 HR3.out.1).mono ?_
 rintro e w9 ⟨rfl, hr, hg⟩
 have HS9 := h_ ((HS3.out.rd hg HR3.out.2.1).mono (show n ≤ n + 1 by omega) (by omega))
 have HR9 := h_ (HR3.out.step hr hg)
 have HC9 := h_ (HC3.out.rd hg HR3.out.2.1)
 clear hr hg
 go_wp2_with fail
 go_end0
 rw [HX.out]
 exact d0d.of HS9.out HR9.out HC9.out
theorem reg_zr {w : World} {f : Nat → Nat} {B g n r tn : Nat} {p : Option Addr} {c : Nat} {tk : List Tk} {s : RS} {x : SrcA} {v : SrcV} (hS : ST w f B g n x v) (hR : RdrL w f r tn p c tk s) (hn : n < 19000) {ta : Int} {tt : ByteArray} (hP : a0p tk s = (1, tt, ta)) (hr : regN tt = some 31) (hN : n0q (regN tt) = .tuple #[.int .i64 31, .bool true]) :
  Calls Tryz.prog 96 #[.pointer (some ⟨g, 0, none⟩), .pointer (some ⟨r, 0, none⟩)] w (d0d w f B g (n + 1) r tn p c tk (f0k tk x s)) := by
 have HX := h_ (show f0k tk x s = (x, e0e tk s 110) by unfold f0k; rw [if_neg]; simp [m0o, hP, hr])
 have HP := h_ (show Calls Tryz.prog 127 #[.pointer (some ⟨r, 0, none⟩)] w fun e w' => e = .returned (.agg #[.int .i64 1, .string tt, .int .i64 ta]) ∧ Below w.heap.size w w' by have := d0t w hR.1; rw [hP] at this; exact this)
 have HN := h_ (fun w1 => show Calls Tryz.prog 136 #[.string tt] w1 fun e w' => e = .returned (.tuple #[.int .i64 31, .bool true]) ∧ ∃ m, w' = w1.drewN m by have := d0k tt w1; rw [hN] at this; exact this)
 have HS := h_ hS
 have HR := h_ hR
 clear hS hR hP hN
 go_enter Tryz.func96, Tryz.ntmps96
 go_wp2_with fail
 refine (HP.out).mono ?_
 rintro e w2 ⟨rfl, hb⟩
 have hz := hb.size
 have HB := h_ (bl_ hb (.cells #[.int .i64 1, .string tt, .int .i64 ta] 147))
 have HT2 := h_ (show Blk (w2.alloc (.cells #[.int .i64 1, .string tt, .int .i64 ta] 147)) 147 w2.heap.size [.int .i64 1, .string tt, .int .i64 ta] from Blk.new w2 _ _)
 have HS2 := h_ (HS.out.below HB.out)
 have HR2 := h_ (HR.out.below HB.out)
 have HC2 := h_ ((Acc.refl w f).below HB.out)
 clear hb HP
 go_wp2_with fail
 generalize w2.alloc (.cells #[.int .i64 1, .string tt, .int .i64 ta] 147) = w3 at *
 generalize w2.heap.size = h0 at *
 refine (HN.out _).mono ?_
 rintro e w' ⟨rfl, m, rfl⟩
 have HS3 := h_ (show ST (w3.drewN m) f B g n x v from HS2.out.below (bd_ (Below.refl _ _) m))
 have HR3 := h_ (show RdrL (w3.drewN m) f r tn p c tk s from HR2.out.below (bd_ (Below.refl _ _) m))
 have HC3 := h_ (show Acc w f (w3.drewN m) f from HC2.out.below (bd_ (Below.refl _ _) m))
 have HT3 := h_ (HT2.out.dn m)
 clear HS2 HR2 HC2 HT2 HN
 generalize w3.drewN m = w4 at *
 go_wp2_with fail
 refine (s0b HS3.out).mono ?_
 rintro e w' ⟨q, rfl, rfl⟩
 have b0 := HT3.out.cell 0
 simp only [gz_] at b0
 have hh0 := HT3.out.lt
 go_wp2_with fail
 refine (e0j _ 110 HR3.out.1).mono ?_
 rintro e w9 ⟨rfl, hr, hg⟩
 have HS9 := h_ ((HS3.out.rd hg HR3.out.2.1).mono (show n ≤ n + 1 by omega) (by omega))
 have HR9 := h_ (HR3.out.step hr hg)
 have HC9 := h_ (HC3.out.rd hg HR3.out.2.1)
 clear hr hg
 go_wp2_with fail
 go_end0
 rw [HX.out]
 exact d0d.of HS9.out HR9.out HC9.out
theorem d1r {w : World} {f : Nat → Nat} {B g n r tn : Nat} {p : Option Addr} {c : Nat} {tk : List Tk} {s : RS} {x : SrcA} {v : SrcV} (hS : ST w f B g n x v) (hR : RdrL w f r tn p c tk s) (hn : n < 19000) {ta : Int} {tt : ByteArray} (hP : a0p tk s = (1, tt, ta)) {j : Nat} (hr : regN tt = some j) (hj : j < 31) (hN : n0q (regN tt) = .tuple #[.int .i64 (j : Nat), .bool true]) (hz0 : x.cores.length = 0) :
  Calls Tryz.prog 96 #[.pointer (some ⟨g, 0, none⟩), .pointer (some ⟨r, 0, none⟩)] w (d0d w f B g (n + 1) r tn p c tk (f0k tk x s)) := by
 have HX := h_ (show f0k tk x s = (x, e0e tk s 110) by unfold f0k; rw [if_neg]; simp [m0o, hP, hr, List.length_eq_zero_iff.1 hz0])
 have HP := h_ (show Calls Tryz.prog 127 #[.pointer (some ⟨r, 0, none⟩)] w fun e w' => e = .returned (.agg #[.int .i64 1, .string tt, .int .i64 ta]) ∧ Below w.heap.size w w' by have := d0t w hR.1; rw [hP] at this; exact this)
 have HN := h_ (fun w1 => show Calls Tryz.prog 136 #[.string tt] w1 fun e w' => e = .returned (.tuple #[.int .i64 (j : Nat), .bool true]) ∧ ∃ m, w' = w1.drewN m by have := d0k tt w1; rw [hN] at this; exact this)
 have HS := h_ hS
 have HR := h_ hR
 clear hS hR hP hN
 go_enter Tryz.func96, Tryz.ntmps96
 go_wp2_with fail
 refine (HP.out).mono ?_
 rintro e w2 ⟨rfl, hb⟩
 have hz := hb.size
 have HB := h_ (bl_ hb (.cells #[.int .i64 1, .string tt, .int .i64 ta] 147))
 have HT2 := h_ (show Blk (w2.alloc (.cells #[.int .i64 1, .string tt, .int .i64 ta] 147)) 147 w2.heap.size [.int .i64 1, .string tt, .int .i64 ta] from Blk.new w2 _ _)
 have HS2 := h_ (HS.out.below HB.out)
 have HR2 := h_ (HR.out.below HB.out)
 have HC2 := h_ ((Acc.refl w f).below HB.out)
 clear hb HP
 go_wp2_with fail
 generalize w2.alloc (.cells #[.int .i64 1, .string tt, .int .i64 ta] 147) = w3 at *
 generalize w2.heap.size = h0 at *
 refine (HN.out _).mono ?_
 rintro e w' ⟨rfl, m, rfl⟩
 have HS3 := h_ (show ST (w3.drewN m) f B g n x v from HS2.out.below (bd_ (Below.refl _ _) m))
 have HR3 := h_ (show RdrL (w3.drewN m) f r tn p c tk s from HR2.out.below (bd_ (Below.refl _ _) m))
 have HC3 := h_ (show Acc w f (w3.drewN m) f from HC2.out.below (bd_ (Below.refl _ _) m))
 have HT3 := h_ (HT2.out.dn m)
 clear HS2 HR2 HC2 HT2 HN
 generalize w3.drewN m = w4 at *
 go_wp2_with fail
 have hjb : (((j : Nat) : Int) == 31) = false := by rw [beq_eq_false_iff_ne]; omega
 refine (p0h HS3.out hz0).mono ?_
 rintro e w' ⟨rfl, rfl⟩
 have b0 := HT3.out.cell 0
 simp only [gz_] at b0
 have hh0 := HT3.out.lt
 go_wp2_with fail
 refine (e0j _ 110 HR3.out.1).mono ?_
 rintro e w9 ⟨rfl, hr, hg⟩
 have HS9 := h_ ((HS3.out.rd hg HR3.out.2.1).mono (show n ≤ n + 1 by omega) (by omega))
 have HR9 := h_ (HR3.out.step hr hg)
 have HC9 := h_ (HC3.out.rd hg HR3.out.2.1)
 clear hr hg
 go_wp2_with fail
 go_end0
 rw [HX.out]
 exact d0d.of HS9.out HR9.out HC9.out
theorem i1e {w : World} {f : Nat → Nat} {B g n r tn : Nat} {p : Option Addr} {c : Nat} {tk : List Tk} {s : RS} {x : SrcA} {v : SrcV} (hS : ST w f B g n x v) (hR : RdrL w f r tn p c tk s) (hn : n < 19000) {ta : Int} {tt : ByteArray} (hP : a0p tk s = (1, tt, ta)) {j : Nat} (hr : regN tt = some j) (hj : j < 31) (hN : n0q (regN tt) = .tuple #[.int .i64 (j : Nat), .bool true]) {l : List CoreA} {cc : CoreA} (hx : x.cores = l ++ [cc]) (hc : 0 < cc.code.length) :
  Calls Tryz.prog 96 #[.pointer (some ⟨g, 0, none⟩), .pointer (some ⟨r, 0, none⟩)] w (d0d w f B g (n + 1) r tn p c tk (f0k tk x s)) := by
 have hlen : x.cores.length = l.length + 1 := by rw [hx]; simp
 obtain ⟨vl, cv, gc, cap, gr, capr, pc, capc, ph, caph, hvx, hvo, hvr, hvc, hvh⟩ := hS.lastcore hx
 have HX := h_ (show f0k tk x s = (x, e0e tk s 110) by unfold f0k; rw [if_neg]; simp [m0o, hP, hr, hx, List.isEmpty_iff, List.ne_nil_of_length_pos hc])
 have HP := h_ (show Calls Tryz.prog 127 #[.pointer (some ⟨r, 0, none⟩)] w fun e w' => e = .returned (.agg #[.int .i64 1, .string tt, .int .i64 ta]) ∧ Below w.heap.size w w' by have := d0t w hR.1; rw [hP] at this; exact this)
 have HN := h_ (fun w1 => show Calls Tryz.prog 136 #[.string tt] w1 fun e w' => e = .returned (.tuple #[.int .i64 (j : Nat), .bool true]) ∧ ∃ m, w' = w1.drewN m by have := d0k tt w1; rw [hN] at this; exact this)
 have HS := h_ hS
 have HR := h_ hR
 clear hS hR hP hN
 go_enter Tryz.func96, Tryz.ntmps96
 go_wp2_with fail
 refine (HP.out).mono ?_
 rintro e w2 ⟨rfl, hb⟩
 have hz := hb.size
 have HB := h_ (bl_ hb (.cells #[.int .i64 1, .string tt, .int .i64 ta] 147))
 have HT2 := h_ (show Blk (w2.alloc (.cells #[.int .i64 1, .string tt, .int .i64 ta] 147)) 147 w2.heap.size [.int .i64 1, .string tt, .int .i64 ta] from Blk.new w2 _ _)
 have HS2 := h_ (HS.out.below HB.out)
 have HR2 := h_ (HR.out.below HB.out)
 have HC2 := h_ ((Acc.refl w f).below HB.out)
 clear hb HP
 go_wp2_with fail
 generalize w2.alloc (.cells #[.int .i64 1, .string tt, .int .i64 ta] 147) = w3 at *
 generalize w2.heap.size = h0 at *
 refine (HN.out _).mono ?_
 rintro e w' ⟨rfl, m, rfl⟩
 have HS3 := h_ (show ST (w3.drewN m) f B g n x v from HS2.out.below (bd_ (Below.refl _ _) m))
 have HR3 := h_ (show RdrL (w3.drewN m) f r tn p c tk s from HR2.out.below (bd_ (Below.refl _ _) m))
 have HC3 := h_ (show Acc w f (w3.drewN m) f from HC2.out.below (bd_ (Below.refl _ _) m))
 have HT3 := h_ (HT2.out.dn m)
 clear HS2 HR2 HC2 HT2 HN
 generalize w3.drewN m = w4 at *
 go_wp2_with fail
 have hjb : (((j : Nat) : Int) == 31) = false := by rw [beq_eq_false_iff_ne]; omega
 have hcb : decide ((0 : Int) < (cc.code.length : Int)) = true := decide_eq_true (by omega)
 refine (h0v HS3.out l.length hlen gc cap hvo).mono ?_
 rintro e w' ⟨rfl, rfl⟩
 have b0 := HT3.out.cell 0
 simp only [gz_] at b0
 have q3 := HS3.out.coreCell hx hvx hvo 3 (by decide)
 have q0 := HS3.out.coreCell hx hvx hvo 0 (by decide)
 have c16 := HS3.out.after
 have hgl := HS3.out.lt
 simp only [g0v, gz_, gs_, hvc, hvr, Nat.add_zero] at q3 q0
 obtain ⟨q31, q32, q33⟩ := q3
 obtain ⟨q01, q02, _⟩ := q0
 have hh0 := HT3.out.lt
 go_wp2_with fail
 refine (e0j _ 110 HR3.out.1).mono ?_
 rintro e w9 ⟨rfl, hr, hg⟩
 have HS9 := h_ ((HS3.out.rd hg HR3.out.2.1).mono (show n ≤ n + 1 by omega) (by omega))
 have HR9 := h_ (HR3.out.step hr hg)
 have HC9 := h_ (HC3.out.rd hg HR3.out.2.1)
 clear hr hg
 go_wp2_with fail
 go_end0
 rw [HX.out]
 exact d0d.of HS9.out HR9.out HC9.out
theorem d1s {w : World} {f : Nat → Nat} {B g n r tn : Nat} {p : Option Addr} {c : Nat} {tk : List Tk} {s : RS} {x : SrcA} {v : SrcV} (hS : ST w f B g n x v) (hR : RdrL w f r tn p c tk s) (hn : n < 19000) {ta : Int} {tt : ByteArray} (hP : a0p tk s = (1, tt, ta)) {j : Nat} (hr : regN tt = some j) (hj : j < 31) (hN : n0q (regN tt) = .tuple #[.int .i64 (j : Nat), .bool true]) {l : List CoreA} {cc : CoreA} (hx : x.cores = l ++ [cc]) (hc : cc.code = []) (ha : ¬ x.after = 2) :
  Calls Tryz.prog 96 #[.pointer (some ⟨g, 0, none⟩), .pointer (some ⟨r, 0, none⟩)] w (d0d w f B g (n + 1) r tn p c tk (f0k tk x s)) := by
 have hlen : x.cores.length = l.length + 1 := by rw [hx]; simp
 obtain ⟨vl, cv, gc, cap, gr, capr, pc, capc, ph, caph, hvx, hvo, hvr, hvc, hvh⟩ := hS.lastcore hx
 have HX := h_ (show f0k tk x s = (x, e0e tk s 110) by unfold f0k; rw [if_neg]; simp [m0o, hP, ha])
 have HP := h_ (show Calls Tryz.prog 127 #[.pointer (some ⟨r, 0, none⟩)] w fun e w' => e = .returned (.agg #[.int .i64 1, .string tt, .int .i64 ta]) ∧ Below w.heap.size w w' by have := d0t w hR.1; rw [hP] at this; exact this)
 have HN := h_ (fun w1 => show Calls Tryz.prog 136 #[.string tt] w1 fun e w' => e = .returned (.tuple #[.int .i64 (j : Nat), .bool true]) ∧ ∃ m, w' = w1.drewN m by have := d0k tt w1; rw [hN] at this; exact this)
 have HS := h_ hS
 have HR := h_ hR
 clear hS hR hP hN
 go_enter Tryz.func96, Tryz.ntmps96
 go_wp2_with fail
 refine (HP.out).mono ?_
 rintro e w2 ⟨rfl, hb⟩
 have hz := hb.size
 have HB := h_ (bl_ hb (.cells #[.int .i64 1, .string tt, .int .i64 ta] 147))
 have HT2 := h_ (show Blk (w2.alloc (.cells #[.int .i64 1, .string tt, .int .i64 ta] 147)) 147 w2.heap.size [.int .i64 1, .string tt, .int .i64 ta] from Blk.new w2 _ _)
 have HS2 := h_ (HS.out.below HB.out)
 have HR2 := h_ (HR.out.below HB.out)
 have HC2 := h_ ((Acc.refl w f).below HB.out)
 clear hb HP
 go_wp2_with fail
 generalize w2.alloc (.cells #[.int .i64 1, .string tt, .int .i64 ta] 147) = w3 at *
 generalize w2.heap.size = h0 at *
 refine (HN.out _).mono ?_
 rintro e w' ⟨rfl, m, rfl⟩
 have HS3 := h_ (show ST (w3.drewN m) f B g n x v from HS2.out.below (bd_ (Below.refl _ _) m))
 have HR3 := h_ (show RdrL (w3.drewN m) f r tn p c tk s from HR2.out.below (bd_ (Below.refl _ _) m))
 have HC3 := h_ (show Acc w f (w3.drewN m) f from HC2.out.below (bd_ (Below.refl _ _) m))
 have HT3 := h_ (HT2.out.dn m)
 clear HS2 HR2 HC2 HT2 HN
 generalize w3.drewN m = w4 at *
 go_wp2_with fail
 have hjb : (((j : Nat) : Int) == 31) = false := by rw [beq_eq_false_iff_ne]; omega
 have hcb : decide ((0 : Int) < (cc.code.length : Int)) = false := by rw [hc]; rfl
 have hab : ((x.after : Int) != 2) = true := bne_iff_ne.2 (by omega)
 refine (h0v HS3.out l.length hlen gc cap hvo).mono ?_
 rintro e w' ⟨rfl, rfl⟩
 have b0 := HT3.out.cell 0
 simp only [gz_] at b0
 have q3 := HS3.out.coreCell hx hvx hvo 3 (by decide)
 have q0 := HS3.out.coreCell hx hvx hvo 0 (by decide)
 have c16 := HS3.out.after
 have hgl := HS3.out.lt
 simp only [g0v, gz_, gs_, hvc, hvr, Nat.add_zero] at q3 q0
 obtain ⟨q31, q32, q33⟩ := q3
 obtain ⟨q01, q02, _⟩ := q0
 have hh0 := HT3.out.lt
 go_wp2_with fail
 refine (e0j _ 110 HR3.out.1).mono ?_
 rintro e w9 ⟨rfl, hr, hg⟩
 have HS9 := h_ ((HS3.out.rd hg HR3.out.2.1).mono (show n ≤ n + 1 by omega) (by omega))
 have HR9 := h_ (HR3.out.step hr hg)
 have HC9 := h_ (HC3.out.rd hg HR3.out.2.1)
 clear hr hg
 go_wp2_with fail
 go_end0
 rw [HX.out]
 exact d0d.of HS9.out HR9.out HC9.out
theorem reg_ok {w : World} {f : Nat → Nat} {B g n r tn : Nat} {p : Option Addr} {c : Nat} {tk : List Tk} {s : RS} {x : SrcA} {v : SrcV} (hS : ST w f B g n x v) (hR : RdrL w f r tn p c tk s) (hn : n < 19000) {ta : Int} {tt : ByteArray} (hP : a0p tk s = (1, tt, ta)) {j : Nat} (hr : regN tt = some j) (hj : j < 31) (hN : n0q (regN tt) = .tuple #[.int .i64 (j : Nat), .bool true]) {l : List CoreA} {cc : CoreA} (hx : x.cores = l ++ [cc]) (hc : cc.code = []) (ha : x.after = 2) :
  Calls Tryz.prog 96 #[.pointer (some ⟨g, 0, none⟩), .pointer (some ⟨r, 0, none⟩)] w (d0d w f B g (n + 1) r tn p c tk (f0k tk x s)) := by
 have hlen : x.cores.length = l.length + 1 := by rw [hx]; simp
 obtain ⟨vl, cv, gc, cap, gr, capr, pc, capc, ph, caph, hvx, hvo, hvr, hvc, hvh⟩ := hS.lastcore hx
 have HX := h_ (show f0k tk x s = ({ x with cores := l ++ [{ cc with regs := cc.regs.set j (litV tk (d0z tk (a0v tk s) 3 ⟨#[61]⟩)).1 }] }, (litV tk (d0z tk (a0v tk s) 3 ⟨#[61]⟩)).2) by unfold f0k; rw [if_pos (by simp [m0o, hP, hr, hx, hc, ha, show ¬ j = 31 by omega])]; simp [k0n, hx, hP, hr])
 have HP := h_ (show Calls Tryz.prog 127 #[.pointer (some ⟨r, 0, none⟩)] w fun e w' => e = .returned (.agg #[.int .i64 1, .string tt, .int .i64 ta]) ∧ Below w.heap.size w w' by have := d0t w hR.1; rw [hP] at this; exact this)
 have HN := h_ (fun w1 => show Calls Tryz.prog 136 #[.string tt] w1 fun e w' => e = .returned (.tuple #[.int .i64 (j : Nat), .bool true]) ∧ ∃ m, w' = w1.drewN m by have := d0k tt w1; rw [hN] at this; exact this)
 have HS := h_ hS
 have HR := h_ hR
 clear hS hR hP hN
 go_enter Tryz.func96, Tryz.ntmps96
 go_wp2_with fail
 refine (HP.out).mono ?_
 rintro e w2 ⟨rfl, hb⟩
 have hz := hb.size
 have HB := h_ (bl_ hb (.cells #[.int .i64 1, .string tt, .int .i64 ta] 147))
 have HT2 := h_ (show Blk (w2.alloc (.cells #[.int .i64 1, .string tt, .int .i64 ta] 147)) 147 w2.heap.size [.int .i64 1, .string tt, .int .i64 ta] from Blk.new w2 _ _)
 have HS2 := h_ (HS.out.below HB.out)
 have HR2 := h_ (HR.out.below HB.out)
 have HC2 := h_ ((Acc.refl w f).below HB.out)
 clear hb HP
 go_wp2_with fail
 generalize w2.alloc (.cells #[.int .i64 1, .string tt, .int .i64 ta] 147) = w3 at *
 generalize w2.heap.size = h0 at *
 refine (HN.out _).mono ?_
 rintro e w' ⟨rfl, m, rfl⟩
 have HS3 := h_ (show ST (w3.drewN m) f B g n x v from HS2.out.below (bd_ (Below.refl _ _) m))
 have HR3 := h_ (show RdrL (w3.drewN m) f r tn p c tk s from HR2.out.below (bd_ (Below.refl _ _) m))
 have HC3 := h_ (show Acc w f (w3.drewN m) f from HC2.out.below (bd_ (Below.refl _ _) m))
 have HT3 := h_ (HT2.out.dn m)
 clear HS2 HR2 HC2 HT2 HN
 generalize w3.drewN m = w4 at *
 go_wp2_with fail
 have hjb : (((j : Nat) : Int) == 31) = false := by rw [beq_eq_false_iff_ne]; omega
 have hcb : decide ((0 : Int) < (cc.code.length : Int)) = false := by rw [hc]; rfl
 have hab : ((x.after : Int) != 2) = false := by rw [ha]; rfl
 refine (h0v HS3.out l.length hlen gc cap hvo).mono ?_
 rintro e w' ⟨rfl, rfl⟩
 have b0 := HT3.out.cell 0
 simp only [gz_] at b0
 have q3 := HS3.out.coreCell hx hvx hvo 3 (by decide)
 have q0 := HS3.out.coreCell hx hvx hvo 0 (by decide)
 have c16 := HS3.out.after
 have hgl := HS3.out.lt
 simp only [g0v, gz_, gs_, hvc, hvr, Nat.add_zero] at q3 q0
 obtain ⟨q31, q32, q33⟩ := q3
 obtain ⟨q01, q02, _⟩ := q0
 have hh0 := HT3.out.lt
 go_wp2_with fail
 refine (g0q _ HR3.out.1).mono ?_
 rintro e w5 ⟨rfl, hr, hg⟩
 have HS5 := h_ (HS3.out.rd hg HR3.out.2.1)
 have HR5 := h_ (HR3.out.step hr hg)
 have HC5 := h_ (HC3.out.rd hg HR3.out.2.1)
 clear hr hg HS3 HR3 HC3
 clear HT3 b0 q31 q32 q01 q02 c16
 go_wp2_with fail
 refine (j0n _ 3 ⟨#[61]⟩ HR5.out.1).mono ?_
 rintro e w6 ⟨rfl, hr, hg⟩
 have HS6 := h_ (HS5.out.rd hg HR5.out.2.1)
 have HR6 := h_ (HR5.out.step hr hg)
 have HC6 := h_ (HC5.out.rd hg HR5.out.2.1)
 clear hr hg HS5 HR5 HC5
 generalize d0z tk (a0v tk s) 3 ⟨#[61]⟩ = s6 at *
 have HV := h_ (x0s w6.drew HR6.out.pw (RdrL.below HR6.out (Below.refl _ w6).drew).1)
 generalize litV tk s6 = y at *
 obtain ⟨u, s7⟩ := y
 simp only at HX HV
 have q0 := HS6.out.coreCell hx hvx hvo 0 (by decide)
 simp only [g0v, gz_, hvr, Nat.add_zero] at q0
 obtain ⟨q01, q02, q03⟩ := q0
 have HSD := h_ (show ST w6.drew f B g n x v from ST.below HS6.out (Below.refl _ w6).drew)
 have HRL := h_ (show RdrL w6.drew f r tn p c tk s6 from RdrL.below HR6.out (Below.refl _ w6).drew)
 go_wp2_with fail
 have hjI : ((j : Nat) : Int) < 31 := by omega
 go_region_law? ((go_simp; go_at_call 132; refine HV.out.mono ?_; rintro e w7 ⟨rfl, hr7, hg7⟩; have HS7 := h_ (ST.rd HSD.out hg7 HRL.out.2.1); have HR7 := h_ (RdrL.step HRL.out hr7 hg7); have q0 := HS7.out.coreCell hx hvx hvo 0 (by decide); simp only [g0v, gz_, hvr, Nat.add_zero] at q0; obtain ⟨q01, q02, q03⟩ := q0; have k0 := HS7.out.regCell hx hvx hvr hj; obtain ⟨⟨u0, k01⟩, k02, k03⟩ := k0))
 all_goals
  have HC7 := h_ ((HC6.out.below (Below.refl _ w6).drew).rd hg7 HRL.out.2.1)
  go_end0
  rw [HX.out]
  obtain ⟨hSz, hlr⟩ := HS7.out.setreg hx hvx hvr hj u
  exact d0d.of (hSz.mono (show n ≤ n + 1 by omega) (by omega)) (HR7.out.gl (L := fun k => k = lab 10 l.length) ((GL.refl f _ w7).set hlr j (.int .u64 (u : Nat))) (fun _ _ => rfl) (by unfold lab; omega) (by unfold lab; omega)) (HC7.out.set (by rw [hlr]; unfold lab; omega) j (.int .u64 (u : Nat)))
theorem m1r {w : World} {f : Nat → Nat} {B g n r tn : Nat} {p : Option Addr} {c : Nat} {tk : List Tk} {s : RS} {x : SrcA} {v : SrcV} (hS : ST w f B g n x v) (hR : RdrL w f r tn p c tk s) (hn : n < 19000) :
  Calls Tryz.prog 96 #[.pointer (some ⟨g, 0, none⟩), .pointer (some ⟨r, 0, none⟩)] w (d0d w f B g (n + 1) r tn p c tk (f0k tk x s)) := by
 rcases hP : a0p tk s with ⟨tk1, tt, ta⟩
 by_cases hk : tk1 = 1
 ·subst hk
  cases hr : regN tt with
  | none => exact i1d hS hR hn hP hr (by rw [hr]; rfl)
  | some j =>
   have hj := v0l hr
   by_cases h31 : j = 31
   ·subst h31; exact reg_zr hS hR hn hP hr (by rw [hr]; rfl)
   ·by_cases h0 : x.cores.length = 0
    ·exact d1r hS hR hn hP hr (by omega) (by rw [hr]; rfl) h0
    ·obtain ⟨l, cc, hx, _⟩ := i0y x.cores (x.cores.length - 1) (by omega)
     by_cases hc : cc.code = []
     ·by_cases ha : x.after = 2
      ·exact reg_ok hS hR hn hP hr (by omega) (by rw [hr]; rfl) hx hc ha
      ·exact d1s hS hR hn hP hr (by omega) (by rw [hr]; rfl) hx hc ha
     ·exact i1e hS hR hn hP hr (by omega) (by rw [hr]; rfl) hx (List.length_pos_iff.2 hc)
 ·rcases hN : regN tt with _ | j
  ·exact x0k hS hR hn hP hk (j := 0) (ok := false) (by rw [hN]; rfl)
  ·exact x0k hS hR hn hP hk (j := (j : Nat)) (ok := true) (by rw [hN]; rfl)
end
section
open Go.RowKit
theorem j0a (t : ByteArray) (at_ : Int) (w : World) (hs : t.size ≤ 140737488351232) :
  Calls Tryz.prog 86 #[.agg #[.string t, .int .i64 at_]] w fun e w' => e = .returned (.string (t.extract 0 (c0t t 0))) ∧ Below w.heap.size w w' := by
 have HB := h_ (show Blk (w.alloc (.cells #[.string t, .int .i64 at_] 114)) 114 w.heap.size [.string t, .int .i64 at_] from Blk.new _ _ _)
 have HW := h_ (show Below w.heap.size w (w.alloc (.cells #[.string t, .int .i64 at_] 114)) from bl_ (Below.refl _ _) _)
 go_enter Tryz.func86, Tryz.ntmps86
 go_wp2_with fail
 obtain ⟨w1, hw1⟩ : ∃ w1, w1 = w.alloc (.cells #[.string t, .int .i64 at_] 114) := ⟨_, rfl⟩
 rw [← hw1] at HB HW ⊢
 clear hw1
 have hc := HB.out.cell 0
 go_loop [3] (fun i => ∃ k : Nat, k ≤ t.size ∧ i = .int .i64 k ∧ scan (k0a t) t.size k = c0t t 0) (fun i => t.size - (intOf i).toNat)
 case atStart => exact ⟨0, by omega, rfl, rfl⟩
 case round =>
  obtain ⟨k, hk, rfl, hsc⟩ := hrel
  have HS := h_ hsc
  clear hsc
  by_cases hlt : k < t.size
  ·have HB := h_ (l0e hlt)
   cases hl : e0x (t[k].toNat : Int)
   ·have HE := h_ (show c0t t 0 = k from by rw [← HS.out]; exact h0h hlt (by unfold k0a; rw [HB.out, hl]; rfl))
    go_wp2_with (go_at_call 121; refine (g0h _ _).mono ?_; rintro e w' ⟨rfl, rfl⟩)
    go_ret
    exact ⟨by rw [HE.out]; rfl, HW.out⟩
   ·have HS2 := h_ (show scan (k0a t) t.size (k + 1) = c0t t 0 from by rw [← HS.out]; exact (f0f hlt (by unfold k0a; rw [HB.out, hl]; rfl)).symm)
    go_wp2_with (go_at_call 121; refine (g0h _ _).mono ?_; rintro e w' ⟨rfl, rfl⟩)
    go_round
    case rel => exact ⟨k + 1, by omega, by go_num, HS2.out⟩
    case measure => simp [intOf]; omega
  ·obtain rfl : k = t.size := by omega
   have HE := h_ (show c0t t 0 = t.size from by rw [← HS.out]; exact e0w (by omega))
   go_wp2_with (go_at_call 121; refine (g0h _ _).mono ?_; rintro e w' ⟨rfl, rfl⟩)
   go_ret
   exact ⟨by rw [HE.out]; simp, HW.out⟩
end
end Go.Proofs.YtmnojnopejhebaaGreat
