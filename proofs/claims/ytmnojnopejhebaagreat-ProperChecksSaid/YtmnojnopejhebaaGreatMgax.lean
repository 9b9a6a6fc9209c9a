/- The state's function instr. -/
import Derived.Test.YtmnojnopejhebaaGreatMgai
import Derived.Test.YtmnojnopejhebaaGreatMgau
import Derived.Test.YtmnojnopejhebaaGreatMgaw
import Derived.Deep.RegionLaw
import Derived.Outline
import Derived.Deep.RegionHeldLaw
namespace Go.Proofs.YtmnojnopejhebaaGreat
set_option linter.unusedVariables false
set_option linter.unusedSimpArgs false
set_option maxRecDepth 100000
set_option maxHeartbeats 25600000
section
open Go.RowKit
theorem l1x : El Tryz.prog 80 91 (.agg #[.int .i64 0, .int .i64 0, .int .i64 0, .int .i64 0, .int .i64 0, .int .i64 0]) 6 48 := ⟨Tryz.underlying80, by kernel_rfl⟩
def g0x (w : World) (f : Nat → Nat) (B g n : Nat) (y : SrcA × Int × Int) (e : Ending) (w' : World) : Prop := e = .returned (.agg #[.int .i64 y.2.1, .int .i64 y.2.2]) ∧ ∃ f' v', ST w' f' B g n y.1 v' ∧ Acc w f w' f'
theorem g0x.of {w w' : World} {f f' : Nat → Nat} {B g n : Nat} {x : SrcA} {a b : Int} {v' : SrcV} (hS : ST w' f' B g n x v') (h : Acc w f w' f') : g0x w f B g n (x, a, b) (.returned (.agg #[.int .i64 a, .int .i64 b])) w' := ⟨rfl, f', v', hS, h⟩
theorem k0k (f : Nat → Nat) (k j : Nat) (h : j ≠ k) (hj : f j = 15) : e0s f k j = 15 := by unfold e0s; rw [if_neg h]; exact hj
theorem a1k {w : World} {f : Nat → Nat} {B g n : Nat} {x : SrcA} {v : SrcV} (hS : ST w f B g n x v) (t : ByteArray) (at_ : Int) (hn : n < 19000) (ht : t.size ≤ 1100000) (h0 : x.cores.length = 0) :
  Calls Tryz.prog 88 #[.pointer (some ⟨g, 0, none⟩), .agg #[.string t, .int .i64 at_]] w (g0x w f B g (n + 2) (insR x t at_)) := by
 have HX := h_ (show insR x t at_ = (x, 110, at_) by unfold insR; rw [List.length_eq_zero_iff.1 h0]; rfl)
 have hlen := h0
 clear h0
 replace hS := hS.mono (show n ≤ n + 2 by omega) (by omega)
 have HW1 := h_ (show Below w.heap.size w ((w.alloc (.cells #[.string t, .int .i64 at_] 114)).alloc (.cells #[.int .i64 0, .int .i64 0] 41)) from bl_ (bl_ (Below.refl _ _) _) _)
 have HF0 := h_ (show e0s (e0s f w.heap.size) (w.heap.size + 1) w.heap.size = 15 from k0k _ _ _ (by omega) (d0f f _))
 have HF1 := h_ (d0f (e0s f w.heap.size) (w.heap.size + 1))
 have HFF : ∀ i, i < w.heap.size → e0s (e0s f w.heap.size) (w.heap.size + 1) i = f i := fun i hi => by rw [d0e _ _ i (by omega), d0e _ _ i hi]
 have HS1 := h_ ((hS.relab HFF).below HW1.out)
 have HC1 := h_ (((Acc.refl w f).relab HFF).below HW1.out)
 have HR1 := h_ (show Blk ((w.alloc (.cells #[.string t, .int .i64 at_] 114)).alloc (.cells #[.int .i64 0, .int .i64 0] 41)) 114 w.heap.size [.string t, .int .i64 at_] from (Blk.new w _ _).alloc _)
 have HP1 := h_ (show Blk ((w.alloc (.cells #[.string t, .int .i64 at_] 114)).alloc (.cells #[.int .i64 0, .int .i64 0] 41)) 41 (w.heap.size + 1) [.int .i64 0, .int .i64 0] from by simpa using Blk.new (w.alloc (.cells #[.string t, .int .i64 at_] 114)) 41 [.int .i64 0, .int .i64 0])
 have hz1 : w.heap.size + 1 < ((w.alloc (.cells #[.string t, .int .i64 at_] 114)).alloc (.cells #[.int .i64 0, .int .i64 0] 41)).heap.size := by simp
 clear hS HFF HW1
 go_enter Tryz.func88, Tryz.ntmps88
 go_wp2_with fail
 generalize (w.alloc (.cells #[.string t, .int .i64 at_] 114)).alloc (.cells #[.int .i64 0, .int .i64 0] 41) = w1 at *
 generalize e0s (e0s f w.heap.size) (w.heap.size + 1) = f1 at *
 have HH : w.heap.size < w.heap.size + 1 := by omega
 generalize w.heap.size + 1 = h1 at *
 generalize w.heap.size = h0 at *
 refine (p0h HS1.out hlen).mono ?_
 rintro e w' ⟨rfl, rfl⟩
 have HQ := h_ ((HP1.out.set 0 (.int .i64 (110))).set 1 (.int .i64 (at_)))
 have HSq := h_ ((HS1.out.set15 HF1.out 0 (.int .i64 (110))).set15 HF1.out 1 (.int .i64 (at_)))
 have HCq := h_ ((HC1.out.set (by rw [HF1.out]; decide) 0 (.int .i64 (110))).set (by rw [HF1.out]; decide) 1 (.int .i64 (at_)))
 have p0 := HP1.out.cell 0
 have p1 := HP1.out.cell 1
 have p2 := HP1.out.free 0
 have p3 := HP1.out.free 1
 have p4 := HP1.out.lt
 have r0 := HR1.out.cell 0
 have r1 := HR1.out.cell 1
 have r4 := HR1.out.lt
 simp only [gz_, gs_] at p0 p1 r0 r1
 go_wp2_with fail
 exact bodyPost_ret (results_cell_row rfl _ _ h1 41 #[.int .i64 (110), .int .i64 (at_)] (0, 0) _ rfl HQ.out Tryz.underlying41 rfl (by kernel_rfl)) rfl (by rw [HX.out]; exact g0x.of HSq.out HCq.out)
theorem f1j {w : World} {f : Nat → Nat} {B g n : Nat} {x : SrcA} {v : SrcV} (hS : ST w f B g n x v) (t : ByteArray) (at_ : Int) (hn : n < 19000) (ht : t.size ≤ 1100000) {l : List CoreA} {c : CoreA} (hx : x.cores = l ++ [c]) {i0 i1 i2 i3 i4 i5 code : Int} (hP : f0o t.data.toList = (⟨i0, i1, i2, i3, i4, i5⟩, code)) (hc : ¬ code = 0) :
  Calls Tryz.prog 88 #[.pointer (some ⟨g, 0, none⟩), .agg #[.string t, .int .i64 at_]] w (g0x w f B g (n + 2) (insR x t at_)) := by
 obtain ⟨vl, cv, gc, cap, gr, capr, pc, capc, ph, caph, hvx, hvo, hvr, hvc, hvh⟩ := hS.lastcore hx
 have hlen : x.cores.length = l.length + 1 := by rw [hx]; simp
 have HA := h_ (fun w1 => show Calls Tryz.prog 123 #[.string t] w1 fun e w' => e = .returned (.tuple #[.agg #[.int .i64 i0, .int .i64 i1, .int .i64 i2, .int .i64 i3, .int .i64 i4, .int .i64 i5], .int .i64 code]) ∧ Below w1.heap.size w1 w' by have := n0d t w1 ht; rw [hP] at this; exact this)
 have HX := h_ (show insR x t at_ = (x, code, at_) by unfold insR; simp only [hx, List.getLast?_append, List.getLast?_singleton, Option.some_or, hP, hc, if_false])
 have hcb : (code != 0) = true := bne_iff_ne.2 hc
 replace hS := hS.mono (show n ≤ n + 2 by omega) (by omega)
 clear hP hc ht
 have HW1 := h_ (show Below w.heap.size w ((w.alloc (.cells #[.string t, .int .i64 at_] 114)).alloc (.cells #[.int .i64 0, .int .i64 0] 41)) from bl_ (bl_ (Below.refl _ _) _) _)
 have HF0 := h_ (show e0s (e0s f w.heap.size) (w.heap.size + 1) w.heap.size = 15 from k0k _ _ _ (by omega) (d0f f _))
 have HF1 := h_ (d0f (e0s f w.heap.size) (w.heap.size + 1))
 have HFF : ∀ i, i < w.heap.size → e0s (e0s f w.heap.size) (w.heap.size + 1) i = f i := fun i hi => by rw [d0e _ _ i (by omega), d0e _ _ i hi]
 have HS1 := h_ ((hS.relab HFF).below HW1.out)
 have HC1 := h_ (((Acc.refl w f).relab HFF).below HW1.out)
 have HR1 := h_ (show Blk ((w.alloc (.cells #[.string t, .int .i64 at_] 114)).alloc (.cells #[.int .i64 0, .int .i64 0] 41)) 114 w.heap.size [.string t, .int .i64 at_] from (Blk.new w _ _).alloc _)
 have HP1 := h_ (show Blk ((w.alloc (.cells #[.string t, .int .i64 at_] 114)).alloc (.cells #[.int .i64 0, .int .i64 0] 41)) 41 (w.heap.size + 1) [.int .i64 0, .int .i64 0] from by simpa using Blk.new (w.alloc (.cells #[.string t, .int .i64 at_] 114)) 41 [.int .i64 0, .int .i64 0])
 have hz1 : w.heap.size + 1 < ((w.alloc (.cells #[.string t, .int .i64 at_] 114)).alloc (.cells #[.int .i64 0, .int .i64 0] 41)).heap.size := by simp
 clear hS HFF HW1
 go_enter Tryz.func88, Tryz.ntmps88
 go_wp2_with fail
 generalize (w.alloc (.cells #[.string t, .int .i64 at_] 114)).alloc (.cells #[.int .i64 0, .int .i64 0] 41) = w1 at *
 generalize e0s (e0s f w.heap.size) (w.heap.size + 1) = f1 at *
 have HH : w.heap.size < w.heap.size + 1 := by omega
 generalize w.heap.size + 1 = h1 at *
 generalize w.heap.size = h0 at *
 refine (h0v HS1.out l.length hlen gc cap hvo).mono ?_
 rintro e w' ⟨rfl, rfl⟩
 have r0 := HR1.out.cell 0
 have r4 := HR1.out.lt
 simp only [gz_, gs_] at r0
 go_wp2_with fail
 refine (HA.out _).mono ?_
 rintro e w2 ⟨rfl, hb⟩
 clear r0 r4
 have HQ := h_ ((((HP1.out.below hb).set 0 (.int .i64 code)).set 1 (.int .i64 at_)).alloc (.cells #[.int .i64 i0, .int .i64 i1, .int .i64 i2, .int .i64 i3, .int .i64 i4, .int .i64 i5] 91))
 have HSq := h_ ((((HS1.out.below hb).set15 HF1.out 0 (.int .i64 code)).set15 HF1.out 1 (.int .i64 at_)).below (bl_ (Below.refl _ _) (.cells #[.int .i64 i0, .int .i64 i1, .int .i64 i2, .int .i64 i3, .int .i64 i4, .int .i64 i5] 91)))
 have HCq := h_ ((((HC1.out.below hb).set (by rw [HF1.out]; decide) 0 (.int .i64 code)).set (by rw [HF1.out]; decide) 1 (.int .i64 at_)).below (bl_ (Below.refl _ _) (.cells #[.int .i64 i0, .int .i64 i1, .int .i64 i2, .int .i64 i3, .int .i64 i4, .int .i64 i5] 91)))
 have p0 := (HP1.out.below hb).cell 0
 have p1 := (HP1.out.below hb).cell 1
 have p2 := (HP1.out.below hb).free 0
 have p3 := (HP1.out.below hb).free 1
 have p4 := (HP1.out.below hb).lt
 have r0 := (HR1.out.below hb).cell 0
 have r1 := (HR1.out.below hb).cell 1
 have r4 := (HR1.out.below hb).lt
 simp only [gz_, gs_] at p0 p1 r0 r1
 clear hb HP1 HS1 HC1 HR1
 go_wp2_with fail
 exact bodyPost_ret (results_cell_row rfl _ _ h1 41 #[.int .i64 code, .int .i64 at_] (0, 0) _ rfl HQ.out Tryz.underlying41 rfl (by kernel_rfl)) rfl (by rw [HX.out]; exact g0x.of HSq.out HCq.out)
theorem a1m {w : World} {f : Nat → Nat} {B g n : Nat} {x : SrcA} {v : SrcV} (hS : ST w f B g n x v) (t : ByteArray) (at_ : Int) (hn : n < 19000) (ht : t.size ≤ 1100000) {l : List CoreA} {c : CoreA} (hx : x.cores = l ++ [c]) {i0 i1 i2 i3 i4 i5 : Int} (hP : f0o t.data.toList = (⟨i0, i1, i2, i3, i4, i5⟩, 0)) {ql : List (List Int)} {q : List Int} (hq : x.pI = ql ++ [q]) (ha : x.after = 2) :
  Calls Tryz.prog 88 #[.pointer (some ⟨g, 0, none⟩), .agg #[.string t, .int .i64 at_]] w (g0x w f B g (n + 2) (insR x t at_)) := by
 obtain ⟨vl, cv, gc, cap, gr, capr, pc, capc, ph, caph, hvx, hvo, hvr, hvc, hvh⟩ := hS.lastcore hx
 have hlen : x.cores.length = l.length + 1 := by rw [hx]; simp
 obtain ⟨il, iv, gp, capp, pq, capq, hqx, hqo, hqv⟩ := hS.lastins hq
 have HA := h_ (fun w1 => show Calls Tryz.prog 123 #[.string t] w1 fun e w' => e = .returned (.tuple #[.agg #[.int .i64 i0, .int .i64 i1, .int .i64 i2, .int .i64 i3, .int .i64 i4, .int .i64 i5], .int .i64 0]) ∧ Below w1.heap.size w1 w' by have := n0d t w1 ht; rw [hP] at this; exact this)
 have HX := h_ (show insR x t at_ = ({ x with cores := l ++ [{ c with code := c.code ++ [⟨i0, i1, i2, i3, i4, i5⟩] }], pI := ql ++ [q ++ [at_]] }, 0, 0) by unfold insR; simp [hx, hq, hP, k0n, q0e, ha])
 have hab : (((x.after : Nat) : Int) == 2) = true := by rw [ha]; rfl
 have HK1 := h_ (show c.code.length + 1 ≤ maxLen by have := hS.sizes.code c (by rw [hx]; simp); unfold maxLen; omega)
 have HK2 := h_ (show (c.code.length + 1) * 48 ≤ 140737488355328 by have := hS.sizes.code c (by rw [hx]; simp); omega)
 have HK4 := h_ (show n < 20000 by omega)
 have HK6 := h_ (show q.length + 1 ≤ maxLen by have := hS.sizes.ins q (by rw [hq]; simp); unfold maxLen; omega)
 have HK7 := h_ (show (q.length + 1) * 8 ≤ 140737488355328 by have := hS.sizes.ins q (by rw [hq]; simp); omega)
 have HK8 := h_ (show n + 1 < 20000 by omega)
 have hqn : ql.length ≤ 20000 := by have h1 := hS.sizes.pI; have h2 := hS.small; rw [hq] at h1; simp at h1; omega
 have hwr : IntKind.i64.wrap (((ql.length : Int) + 1) - 1) = (ql.length : Int) := by simp [IntKind.wrap, IntKind.bits, IntKind.signed]; omega
 clear hP ht
 have HW1 := h_ (show Below w.heap.size w ((w.alloc (.cells #[.string t, .int .i64 at_] 114)).alloc (.cells #[.int .i64 0, .int .i64 0] 41)) from bl_ (bl_ (Below.refl _ _) _) _)
 have HF0 := h_ (show e0s (e0s f w.heap.size) (w.heap.size + 1) w.heap.size = 15 from k0k _ _ _ (by omega) (d0f f _))
 have HF1 := h_ (d0f (e0s f w.heap.size) (w.heap.size + 1))
 have HFF : ∀ i, i < w.heap.size → e0s (e0s f w.heap.size) (w.heap.size + 1) i = f i := fun i hi => by rw [d0e _ _ i (by omega), d0e _ _ i hi]
 have HS1 := h_ ((hS.relab HFF).below HW1.out)
 have HC1 := h_ (((Acc.refl w f).relab HFF).below HW1.out)
 have HR1 := h_ (show Blk ((w.alloc (.cells #[.string t, .int .i64 at_] 114)).alloc (.cells #[.int .i64 0, .int .i64 0] 41)) 114 w.heap.size [.string t, .int .i64 at_] from (Blk.new w _ _).alloc _)
 have HP1 := h_ (show Blk ((w.alloc (.cells #[.string t, .int .i64 at_] 114)).alloc (.cells #[.int .i64 0, .int .i64 0] 41)) 41 (w.heap.size + 1) [.int .i64 0, .int .i64 0] from by simpa using Blk.new (w.alloc (.cells #[.string t, .int .i64 at_] 114)) 41 [.int .i64 0, .int .i64 0])
 have hz1 : w.heap.size + 1 < ((w.alloc (.cells #[.string t, .int .i64 at_] 114)).alloc (.cells #[.int .i64 0, .int .i64 0] 41)).heap.size := by simp
 clear hS HFF HW1
 go_enter Tryz.func88, Tryz.ntmps88
 go_wp2_with fail
 generalize (w.alloc (.cells #[.string t, .int .i64 at_] 114)).alloc (.cells #[.int .i64 0, .int .i64 0] 41) = w1 at *
 generalize e0s (e0s f w.heap.size) (w.heap.size + 1) = f1 at *
 have HH : w.heap.size < w.heap.size + 1 := by omega
 generalize w.heap.size + 1 = h1 at *
 generalize w.heap.size = h0 at *
 refine (h0v HS1.out l.length hlen gc cap hvo).mono ?_
 rintro e w' ⟨rfl, rfl⟩
 have r0 := HR1.out.cell 0
 have r4 := HR1.out.lt
 simp only [gz_, gs_] at r0
 go_wp2_with fail
 refine (HA.out _).mono ?_
 rintro e w2 ⟨rfl, hb⟩
 clear r0 r4
 have hz2 := hb.size
 have HS2 := HS1.out.below hb
 have HC2 := HC1.out.below hb
 have HR2 := HR1.out.below hb
 have HP2 := HP1.out.below hb
 have HBi := h_ (bl_ (Below.refl w2.heap.size w2) (.cells #[.int .i64 i0, .int .i64 i1, .int .i64 i2, .int .i64 i3, .int .i64 i4, .int .i64 i5] 91))
 have HS3 := h_ ((HS2.relab (d0e f1 _)).below HBi.out)
 have HC3 := h_ ((HC2.relab (d0e f1 _)).below HBi.out)
 have HR3 := h_ (HR2.below HBi.out)
 have HP3 := h_ (HP2.below HBi.out)
 have HI3 := h_ (show Blk (w2.alloc (.cells #[.int .i64 i0, .int .i64 i1, .int .i64 i2, .int .i64 i3, .int .i64 i4, .int .i64 i5] 91)) 91 w2.heap.size [.int .i64 i0, .int .i64 i1, .int .i64 i2, .int .i64 i3, .int .i64 i4, .int .i64 i5] from Blk.new w2 _ _)
 have HF2 := h_ (d0f f1 w2.heap.size)
 have HF1' := h_ (k0k f1 w2.heap.size h1 (by omega) HF1.out)
 have HF0' := h_ (k0k f1 w2.heap.size h0 (by omega) HF0.out)
 clear hb HS1 HC1 HR1 HP1 HF1 HF0 HBi HS2 HC2 HR2 HP2 HA
 have c16 := HS3.out.after
 have hgl := HS3.out.lt
 go_wp2_with fail
 generalize w2.alloc (.cells #[.int .i64 i0, .int .i64 i1, .int .i64 i2, .int .i64 i3, .int .i64 i4, .int .i64 i5] 91) = w3 at *
 generalize e0s f1 w2.heap.size = f3 at *
 generalize w2.heap.size = h2 at *
 have HF1 := HF1'
 have HF0 := HF0'
 clear HF1' HF0'
 have HSD := h_ (show ST w3.drew f3 B g n x v from HS3.out.below (Below.refl _ _).drew)
 have HCD := h_ (show Acc w f w3.drew f3 from HC3.out.below (Below.refl _ _).drew)
 have HO2 := h_ (show w3.drew.ownsRow B 91 6 (.slice pc c.code.length capc) c.code.length (insL c.code) by rw [← hvc]; exact (HSD.out.core_own hx hvx).2.1.1)
 have HK3 := h_ (show B ≤ w3.drew.heap.size from Nat.le_trans HSD.out.le (Nat.le_of_lt HSD.out.lt))
 have q3 := HS3.out.coreCell hx hvx hvo 3 (by decide)
 simp only [g0v, gz_, gs_, hvc] at q3
 obtain ⟨q31, q32, q33⟩ := q3
 have i0c := HI3.out.cell 0
 have i1c := HI3.out.cell 1
 have i2c := HI3.out.cell 2
 have i3c := HI3.out.cell 3
 have i4c := HI3.out.cell 4
 have i5c := HI3.out.cell 5
 have ilt := HI3.out.lt
 simp only [gz_, gs_] at i0c i1c i2c i3c i4c i5c
 go_region_law? ((refine f0b rfl _ _ 80 rfl B 91 _ 6 48 l1x rfl (by decide) _ _ _ (by rfl) HO2.out [.int .i64 i0, .int .i64 i1, .int .i64 i2, .int .i64 i3, .int .i64 i4, .int .i64 i5] rfl _ (by rfl) (by rfl) (by simp [Value.oneCell']) HK1.out HK2.out HK3.out ?_; intro v' w5 ho hg hk; obtain ⟨p3, c3, hv3, _⟩ := a0z ho; subst hv3; obtain ⟨f4, hA, hS4⟩ := HSD.out.app_code hx hvx hvo ⟨i0, i1, i2, i3, i4, i5⟩ (by rw [hvc]; exact hg) ho (by rw [hvc]; exact hk) HK4.out; have hd := hA.cell; have he := hA.free; have hgl3 := hA.lt))
 all_goals
  have hsl : f3 gc = lab 7 0 := HSD.out.gcl hvo
  have HC4 := h_ ((HCD.out.gl hA.gl hA.agree (by unfold lab; omega)).set (show f4 gc ≠ 0 by rw [hA.lg]; decide) (l.length * 5 + 3) (.slice p3 (c.code.length + 1) c3))
  have HR4 := h_ (((HR3.out.below (Below.refl _ _).drew).gl hA.gl (by rw [HF0.out]; unfold lab; omega)).gl ((GL.refl f4 _ w5).set (L := fun n => n = lab 7 0) hA.lg (l.length * 5 + 3) (.slice p3 (c.code.length + 1) c3)) (by rw [hA.agree _ (by simpa using HR3.out.lt), HF0.out]; unfold lab; omega))
  have HP4 := h_ (((HP3.out.below (Below.refl _ _).drew).gl hA.gl (by rw [HF1.out]; unfold lab; omega)).gl ((GL.refl f4 _ w5).set (L := fun n => n = lab 7 0) hA.lg (l.length * 5 + 3) (.slice p3 (c.code.length + 1) c3)) (by rw [hA.agree _ (by simpa using HP3.out.lt), HF1.out]; unfold lab; omega))
  have HF0 := h_ (show f4 h0 = 15 by rw [hA.agree _ (by simpa using HR3.out.lt)]; exact HF0.out)
  have HF1 := h_ (show f4 h1 = 15 by rw [hA.agree _ (by simpa using HP3.out.lt)]; exact HF1.out)
  have HS4 := h_ hS4
  clear hA hS4 hd he q31 q32 q33 i0c i1c i2c i3c i4c i5c ilt HSD HCD HO2 HS3 HC3 HR3 HP3 HI3 HF2 ho hg hk
  generalize w5.setCell ⟨gc, l.length * 5 + 3, none⟩ (.slice p3 (c.code.length + 1) c3) = w6 at *
  have e14 := HS4.out.blk.cell 14
  have hgl := HS4.out.lt
  simp only [stC, gz_, gs_, hqo] at e14
  go_wp2_with fail
  have HSE := h_ (show ST w6.drew f4 B g (n + 1) _ _ from HS4.out.below (Below.refl _ _).drew)
  have HCE := h_ (show Acc w f w6.drew f4 from HC4.out.below (Below.refl _ _).drew)
  have HO3 := h_ (show w6.drew.ownsRow B 3 1 (.slice pq q.length capq) q.length (q.map i64V) by rw [← hqv]; exact (HSE.out.ins_own hq hqx).1)
  have HK9 := h_ (show B ≤ w6.drew.heap.size from Nat.le_trans HSE.out.le (Nat.le_of_lt HSE.out.lt))
  have k3 := HS4.out.insCell hq hqx hqo
  rw [hqv] at k3
  obtain ⟨k31, k32, k33⟩ := k3
  have hqi : (ql.length : Int) < (ql.length : Int) + 1 := by omega
  have r0 := HR4.out.cell 0
  have r1 := HR4.out.cell 1
  have r4 := HR4.out.lt
  simp only [gz_, gs_] at r0 r1
  have hgpl := HSE.out.parts.pI.2 gp (by show Value.ownBlock v.vPI = some gp; rw [hqo]; rfl)
  have hne1 : gp ≠ g := by
   intro e; subst e; have h2 := HSE.out.lg; rw [hgpl] at h2; unfold lab at h2; omega
  have hne2 : gp ≠ h0 := by
   intro e; subst e; have h2 := HF0.out; rw [hgpl] at h2; unfold lab at h2; omega
  clear hgpl
  refine wp_region_held_drew (S := (fun w' => w'.cell? ⟨g, 14, none⟩ = some (.slice (some ⟨gp, 0, none⟩) (ql.length + 1) capp) ∧ w'.cell? ⟨h0, 1, none⟩ = some (.int .i64 at_))) (by kernel_rfl) (by (try dsimp only); exact ⟨e14, r1⟩) (fun hHeld => ?_)
  refine tk1 0 61 rfl ?_
  simp only [Act.put, tka, tk0, tkS]
  refine tk1 1 62 rfl ?_
  simp only [Act.put, tka, tk0, tkS]
  refine tk1 2 63 rfl ?_
  simp only [Act.put, tka, tk0, tkS]
  refine tk1 3 64 rfl ?_
  simp only [Act.put, tka, tk0, tkS]
  refine tk1 4 65 rfl ?_
  simp only [Act.put, tka, tk0, tkS]
  refine tk1 5 66 rfl ?_
  simp only [Act.put, tka, tk0, tkS]
  refine tk1 6 67 rfl ?_
  simp only [Act.put, tka, tk0, tkS]
  refine tk1 7 68 rfl ?_
  simp only [Act.put, tka, tk0, tkS]
  refine tk1 8 69 rfl ?_
  simp only [Act.put, tka, tk0, tkS]
  refine tk1 9 70 rfl ?_
  simp only [Act.put, tka, tk0, tkS]
  refine tk1 10 71 rfl ?_
  simp only [Act.put, tka, tk0, tkS]
  refine tk1 11 72 rfl ?_
  simp only [Act.put, tka, tk0, tkS]
  refine tk1 12 73 rfl ?_
  simp only [Act.put, tka, tk0, tkS]
  refine tk1 13 74 rfl ?_
  simp only [Act.put, tka, tk0, tkS]
  refine tk1 14 75 rfl ?_
  simp only [Act.put, tka, tk0, tkS]
  refine tk1 16 77 rfl ?_
  simp only [Act.put, tka, tk0, tkS]
  refine tk1 17 78 rfl ?_
  simp only [Act.put, tka, tk0, tkS]
  refine wpAnyH_ready (rs := [15, 18]) (by kernel_rfl) (by simp) ?_
  refine AllReadyH.cons (o := ⟨some 76, _, _, _, _, _⟩) rfl (fun K hK => ?_) ?_
  ·go_simp
   refine hK.out _ _ (by (try dsimp only); exact ⟨e14, r1⟩) ?_
   clear hK K hHeld
   intro hHeld
   try simp only [Act.put, tka, tk0, tkS]
   refine wpAnyH_ready (rs := [18]) (by kernel_rfl) (by simp) ?_
   refine AllReadyH.cons (o := ⟨some 79, _, _, _, _, _⟩) rfl (fun K hK => ?_) AllReadyH.nil
   go_simp
   refine hK.out _ _ (by (try dsimp only); exact ⟨b0t e14 _, b0t r1 _⟩) ?_
   clear hK K hHeld
   intro hHeld
   try simp only [Act.put, tka, tk0, tkS]
   refine wpAnyH_ready (rs := [19]) (by kernel_rfl) (by simp) ?_
   refine AllReadyH.cons (o := ⟨some 80, _, _, _, _, _⟩) rfl (fun K hK => ?_) AllReadyH.nil
   refine f0b rfl _ _ 33 rfl B 3 _ 1 8 p0q rfl (by decide) _ _ _ (by rfl) HO3.out [i64V at_] rfl _ (by rfl) (by rfl) (by simp [Value.oneCell', i64V]) HK6.out HK7.out HK9.out ?_
   intro v5 w7 ho hg hk
   obtain ⟨p5, c5, hv5, _⟩ := a0z ho
   subst hv5
   obtain ⟨f5, hA, hS5⟩ := HSE.out.app_ins hq hqx hqo at_ (by rw [hqv]; exact hg) ho (by rw [hqv]; exact hk) HK8.out
   have hd := hA.cell
   have he := hA.free
   have hgl5 := hA.lt
   have e14 := (HSE.out.blk.gl hA.gl (by rw [HSE.out.lg]; unfold lab; omega)).cell 14
   have hgl := (HSE.out.blk.gl hA.gl (by rw [HSE.out.lg]; unfold lab; omega)).lt
   simp only [stC, gz_, gs_, hqo] at e14
   have r1 := ((HR4.out.below (Below.refl _ _).drew).gl hA.gl (by rw [HF0.out]; unfold lab; omega)).cell 1
   simp only [gz_, gs_] at r1
   refine hK.out _ _ (by (try dsimp only); exact ⟨e14, r1⟩) ?_
   clear hK K hHeld
   intro hHeld
   try simp only [Act.put, tka, tk0, tkS]
   refine tk1 20 81 rfl ?_
   simp only [Act.put, tka, tk0, tkS]
   refine wpAnyH_ready (rs := [21]) (by kernel_rfl) (by simp) ?_
   refine AllReadyH.cons (o := ⟨none, _, _, _, _, _⟩) rfl (fun K hK => ?_) AllReadyH.nil
   go_simp
   refine hK.out _ _ (by (try dsimp only); exact ⟨(World.cell?_setCell_far _ _ _ _ hne1).trans e14, (World.cell?_setCell_far _ _ _ _ hne2).trans r1⟩) ?_
   clear hK K hHeld
   intro hHeld
   try simp only [Act.put, tka, tk0, tkS]
   refine wpAnyH_done (by kernel_rfl) ?_ _
   have HC5 := h_ ((HCE.out.gl hA.gl hA.agree (by unfold lab; omega)).set (show f5 gp ≠ 0 by rw [hA.lg]; decide) ql.length (.slice p5 (q.length + 1) c5))
   have HR5 := h_ (((HR4.out.below (Below.refl _ _).drew).gl hA.gl (by rw [HF0.out]; unfold lab; omega)).gl ((GL.refl f5 _ w7).set (L := fun n => n = lab 5 0) hA.lg ql.length (.slice p5 (q.length + 1) c5)) (by rw [hA.agree _ (by simpa using HR4.out.lt), HF0.out]; unfold lab; omega))
   have HP5 := h_ (((HP4.out.below (Below.refl _ _).drew).gl hA.gl (by rw [HF1.out]; unfold lab; omega)).gl ((GL.refl f5 _ w7).set (L := fun n => n = lab 5 0) hA.lg ql.length (.slice p5 (q.length + 1) c5)) (by rw [hA.agree _ (by simpa using HP4.out.lt), HF1.out]; unfold lab; omega))
   have HF1 := h_ (show f5 h1 = 15 by rw [hA.agree _ (by simpa using HP4.out.lt)]; exact HF1.out)
   have HS5 := h_ hS5
   clear hA hS5 hd he k31 k32 k33 e14 r0 r1 r4 HSE HCE HO3 HS4 HC4 HR4 HP4 HF0 ho hg hk
   generalize w7.setCell ⟨gp, ql.length, none⟩ (.slice p5 (q.length + 1) c5) = w8 at *
   have HQ := h_ ((HP5.out.set 0 (.int .i64 (0))).set 1 (.int .i64 (0)))
   have HSq := h_ ((HS5.out.set15 HF1.out 0 (.int .i64 (0))).set15 HF1.out 1 (.int .i64 (0)))
   have HCq := h_ ((HC5.out.set (by rw [HF1.out]; decide) 0 (.int .i64 (0))).set (by rw [HF1.out]; decide) 1 (.int .i64 (0)))
   have p0 := HP5.out.cell 0
   have p1 := HP5.out.cell 1
   have p2 := HP5.out.free 0
   have p3 := HP5.out.free 1
   have p4 := HP5.out.lt
   have r0 := HR5.out.cell 0
   have r1 := HR5.out.cell 1
   have r4 := HR5.out.lt
   simp only [gz_, gs_] at p0 p1 r0 r1
   go_wp2_with fail
   exact bodyPost_ret (results_cell_row rfl _ _ h1 41 #[.int .i64 (0), .int .i64 (0)] (0, 0) _ rfl HQ.out Tryz.underlying41 rfl (by kernel_rfl)) rfl (by rw [HX.out]; exact g0x.of HSq.out HCq.out)
  refine AllReadyH.cons (o := ⟨some 79, _, _, _, _, _⟩) rfl (fun K hK => ?_) ?_
  ·go_simp
   refine hK.out _ _ (by (try dsimp only); exact ⟨b0t e14 _, b0t r1 _⟩) ?_
   clear hK K hHeld
   intro hHeld
   try simp only [Act.put, tka, tk0, tkS]
   refine wpAnyH_ready (rs := [15]) (by kernel_rfl) (by simp) ?_
   refine AllReadyH.cons (o := ⟨some 76, _, _, _, _, _⟩) rfl (fun K hK => ?_) AllReadyH.nil
   go_simp
   refine hK.out _ _ (by (try dsimp only); exact ⟨b0t e14 _, b0t r1 _⟩) ?_
   clear hK K hHeld
   intro hHeld
   try simp only [Act.put, tka, tk0, tkS]
   refine wpAnyH_ready (rs := [19]) (by kernel_rfl) (by simp) ?_
   refine AllReadyH.cons (o := ⟨some 80, _, _, _, _, _⟩) rfl (fun K hK => ?_) AllReadyH.nil
   refine f0b rfl _ _ 33 rfl B 3 _ 1 8 p0q rfl (by decide) _ _ _ (by rfl) HO3.out [i64V at_] rfl _ (by rfl) (by rfl) (by simp [Value.oneCell', i64V]) HK6.out HK7.out HK9.out ?_
   intro v5 w7 ho hg hk
   obtain ⟨p5, c5, hv5, _⟩ := a0z ho
   subst hv5
   obtain ⟨f5, hA, hS5⟩ := HSE.out.app_ins hq hqx hqo at_ (by rw [hqv]; exact hg) ho (by rw [hqv]; exact hk) HK8.out
   have hd := hA.cell
   have he := hA.free
   have hgl5 := hA.lt
   have e14 := (HSE.out.blk.gl hA.gl (by rw [HSE.out.lg]; unfold lab; omega)).cell 14
   have hgl := (HSE.out.blk.gl hA.gl (by rw [HSE.out.lg]; unfold lab; omega)).lt
   simp only [stC, gz_, gs_, hqo] at e14
   have r1 := ((HR4.out.below (Below.refl _ _).drew).gl hA.gl (by rw [HF0.out]; unfold lab; omega)).cell 1
   simp only [gz_, gs_] at r1
   refine hK.out _ _ (by (try dsimp only); exact ⟨e14, r1⟩) ?_
   clear hK K hHeld
   intro hHeld
   try simp only [Act.put, tka, tk0, tkS]
   refine tk1 20 81 rfl ?_
   simp only [Act.put, tka, tk0, tkS]
   refine wpAnyH_ready (rs := [21]) (by kernel_rfl) (by simp) ?_
   refine AllReadyH.cons (o := ⟨none, _, _, _, _, _⟩) rfl (fun K hK => ?_) AllReadyH.nil
   go_simp
   refine hK.out _ _ (by (try dsimp only); exact ⟨(World.cell?_setCell_far _ _ _ _ hne1).trans e14, (World.cell?_setCell_far _ _ _ _ hne2).trans r1⟩) ?_
   clear hK K hHeld
   intro hHeld
   try simp only [Act.put, tka, tk0, tkS]
   refine wpAnyH_done (by kernel_rfl) ?_ _
   have HC5 := h_ ((HCE.out.gl hA.gl hA.agree (by unfold lab; omega)).set (show f5 gp ≠ 0 by rw [hA.lg]; decide) ql.length (.slice p5 (q.length + 1) c5))
   have HR5 := h_ (((HR4.out.below (Below.refl _ _).drew).gl hA.gl (by rw [HF0.out]; unfold lab; omega)).gl ((GL.refl f5 _ w7).set (L := fun n => n = lab 5 0) hA.lg ql.length (.slice p5 (q.length + 1) c5)) (by rw [hA.agree _ (by simpa using HR4.out.lt), HF0.out]; unfold lab; omega))
   have HP5 := h_ (((HP4.out.below (Below.refl _ _).drew).gl hA.gl (by rw [HF1.out]; unfold lab; omega)).gl ((GL.refl f5 _ w7).set (L := fun n => n = lab 5 0) hA.lg ql.length (.slice p5 (q.length + 1) c5)) (by rw [hA.agree _ (by simpa using HP4.out.lt), HF1.out]; unfold lab; omega))
   have HF1 := h_ (show f5 h1 = 15 by rw [hA.agree _ (by simpa using HP4.out.lt)]; exact HF1.out)
   have HS5 := h_ hS5
   clear hA hS5 hd he k31 k32 k33 e14 r0 r1 r4 HSE HCE HO3 HS4 HC4 HR4 HP4 HF0 ho hg hk
   generalize w7.setCell ⟨gp, ql.length, none⟩ (.slice p5 (q.length + 1) c5) = w8 at *
   have HQ := h_ ((HP5.out.set 0 (.int .i64 (0))).set 1 (.int .i64 (0)))
   have HSq := h_ ((HS5.out.set15 HF1.out 0 (.int .i64 (0))).set15 HF1.out 1 (.int .i64 (0)))
   have HCq := h_ ((HC5.out.set (by rw [HF1.out]; decide) 0 (.int .i64 (0))).set (by rw [HF1.out]; decide) 1 (.int .i64 (0)))
   have p0 := HP5.out.cell 0
   have p1 := HP5.out.cell 1
   have p2 := HP5.out.free 0
   have p3 := HP5.out.free 1
   have p4 := HP5.out.lt
   have r0 := HR5.out.cell 0
   have r1 := HR5.out.cell 1
   have r4 := HR5.out.lt
   simp only [gz_, gs_] at p0 p1 r0 r1
   go_wp2_with fail
   exact bodyPost_ret (results_cell_row rfl _ _ h1 41 #[.int .i64 (0), .int .i64 (0)] (0, 0) _ rfl HQ.out Tryz.underlying41 rfl (by kernel_rfl)) rfl (by rw [HX.out]; exact g0x.of HSq.out HCq.out)
  exact AllReadyH.nil
theorem a1l {w : World} {f : Nat → Nat} {B g n : Nat} {x : SrcA} {v : SrcV} (hS : ST w f B g n x v) (t : ByteArray) (at_ : Int) (hn : n < 19000) (ht : t.size ≤ 1100000) {l : List CoreA} {c : CoreA} (hx : x.cores = l ++ [c]) {i0 i1 i2 i3 i4 i5 : Int} (hP : f0o t.data.toList = (⟨i0, i1, i2, i3, i4, i5⟩, 0)) {ql : List (List Int)} {q : List Int} (hq : x.pI = ql ++ [q]) (ha : ¬ x.after = 2) :
  Calls Tryz.prog 88 #[.pointer (some ⟨g, 0, none⟩), .agg #[.string t, .int .i64 at_]] w (g0x w f B g (n + 2) (insR x t at_)) := by
 obtain ⟨vl, cv, gc, cap, gr, capr, pc, capc, ph, caph, hvx, hvo, hvr, hvc, hvh⟩ := hS.lastcore hx
 have hlen : x.cores.length = l.length + 1 := by rw [hx]; simp
 obtain ⟨il, iv, gp, capp, pq, capq, hqx, hqo, hqv⟩ := hS.lastins hq
 have HA := h_ (fun w1 => show Calls Tryz.prog 123 #[.string t] w1 fun e w' => e = .returned (.tuple #[.agg #[.int .i64 i0, .int .i64 i1, .int .i64 i2, .int .i64 i3, .int .i64 i4, .int .i64 i5], .int .i64 0]) ∧ Below w1.heap.size w1 w' by have := n0d t w1 ht; rw [hP] at this; exact this)
 have HX := h_ (show insR x t at_ = ({ x with cores := l ++ [{ c with hand := c.hand ++ [⟨i0, i1, i2, i3, i4, i5⟩] }], pI := ql ++ [q ++ [at_]] }, 0, 0) by unfold insR; simp [hx, hq, hP, k0n, q0e, ha])
 have hab : (((x.after : Nat) : Int) == 2) = false := by rw [beq_eq_false_iff_ne]; omega
 have HK1 := h_ (show c.hand.length + 1 ≤ maxLen by have := hS.sizes.code c (by rw [hx]; simp); unfold maxLen; omega)
 have HK2 := h_ (show (c.hand.length + 1) * 48 ≤ 140737488355328 by have := hS.sizes.code c (by rw [hx]; simp); omega)
 have HK4 := h_ (show n < 20000 by omega)
 have HK6 := h_ (show q.length + 1 ≤ maxLen by have := hS.sizes.ins q (by rw [hq]; simp); unfold maxLen; omega)
 have HK7 := h_ (show (q.length + 1) * 8 ≤ 140737488355328 by have := hS.sizes.ins q (by rw [hq]; simp); omega)
 have HK8 := h_ (show n + 1 < 20000 by omega)
 have hqn : ql.length ≤ 20000 := by have h1 := hS.sizes.pI; have h2 := hS.small; rw [hq] at h1; simp at h1; omega
 have hwr : IntKind.i64.wrap (((ql.length : Int) + 1) - 1) = (ql.length : Int) := by simp [IntKind.wrap, IntKind.bits, IntKind.signed]; omega
 clear hP ht
 have HW1 := h_ (show Below w.heap.size w ((w.alloc (.cells #[.string t, .int .i64 at_] 114)).alloc (.cells #[.int .i64 0, .int .i64 0] 41)) from bl_ (bl_ (Below.refl _ _) _) _)
 have HF0 := h_ (show e0s (e0s f w.heap.size) (w.heap.size + 1) w.heap.size = 15 from k0k _ _ _ (by omega) (d0f f _))
 have HF1 := h_ (d0f (e0s f w.heap.size) (w.heap.size + 1))
 have HFF : ∀ i, i < w.heap.size → e0s (e0s f w.heap.size) (w.heap.size + 1) i = f i := fun i hi => by rw [d0e _ _ i (by omega), d0e _ _ i hi]
 have HS1 := h_ ((hS.relab HFF).below HW1.out)
 have HC1 := h_ (((Acc.refl w f).relab HFF).below HW1.out)
 have HR1 := h_ (show Blk ((w.alloc (.cells #[.string t, .int .i64 at_] 114)).alloc (.cells #[.int .i64 0, .int .i64 0] 41)) 114 w.heap.size [.string t, .int .i64 at_] from (Blk.new w _ _).alloc _)
 have HP1 := h_ (show Blk ((w.alloc (.cells #[.string t, .int .i64 at_] 114)).alloc (.cells #[.int .i64 0, .int .i64 0] 41)) 41 (w.heap.size + 1) [.int .i64 0, .int .i64 0] from by simpa using Blk.new (w.alloc (.cells #[.string t, .int .i64 at_] 114)) 41 [.int .i64 0, .int .i64 0])
 have hz1 : w.heap.size + 1 < ((w.alloc (.cells #[.string t, .int .i64 at_] 114)).alloc (.cells #[.int .i64 0, .int .i64 0] 41)).heap.size := by simp
 clear hS HFF HW1
 go_enter Tryz.func88, Tryz.ntmps88
 go_wp2_with fail
 generalize (w.alloc (.cells #[.string t, .int .i64 at_] 114)).alloc (.cells #[.int .i64 0, .int .i64 0] 41) = w1 at *
 generalize e0s (e0s f w.heap.size) (w.heap.size + 1) = f1 at *
 have HH : w.heap.size < w.heap.size + 1 := by omega
 generalize w.heap.size + 1 = h1 at *
 generalize w.heap.size = h0 at *
 refine (h0v HS1.out l.length hlen gc cap hvo).mono ?_
 rintro e w' ⟨rfl, rfl⟩
 have r0 := HR1.out.cell 0
 have r4 := HR1.out.lt
 simp only [gz_, gs_] at r0
 go_wp2_with fail
 refine (HA.out _).mono ?_
 rintro e w2 ⟨rfl, hb⟩
 clear r0 r4
 have hz2 := hb.size
 have HS2 := HS1.out.below hb
 have HC2 := HC1.out.below hb
 have HR2 := HR1.out.below hb
 have HP2 := HP1.out.below hb
 have HBi := h_ (bl_ (Below.refl w2.heap.size w2) (.cells #[.int .i64 i0, .int .i64 i1, .int .i64 i2, .int .i64 i3, .int .i64 i4, .int .i64 i5] 91))
 have HS3 := h_ ((HS2.relab (d0e f1 _)).below HBi.out)
 have HC3 := h_ ((HC2.relab (d0e f1 _)).below HBi.out)
 have HR3 := h_ (HR2.below HBi.out)
 have HP3 := h_ (HP2.below HBi.out)
 have HI3 := h_ (show Blk (w2.alloc (.cells #[.int .i64 i0, .int .i64 i1, .int .i64 i2, .int .i64 i3, .int .i64 i4, .int .i64 i5] 91)) 91 w2.heap.size [.int .i64 i0, .int .i64 i1, .int .i64 i2, .int .i64 i3, .int .i64 i4, .int .i64 i5] from Blk.new w2 _ _)
 have HF2 := h_ (d0f f1 w2.heap.size)
 have HF1' := h_ (k0k f1 w2.heap.size h1 (by omega) HF1.out)
 have HF0' := h_ (k0k f1 w2.heap.size h0 (by omega) HF0.out)
 clear hb HS1 HC1 HR1 HP1 HF1 HF0 HBi HS2 HC2 HR2 HP2 HA
 have c16 := HS3.out.after
 have hgl := HS3.out.lt
 go_wp2_with fail
 generalize w2.alloc (.cells #[.int .i64 i0, .int .i64 i1, .int .i64 i2, .int .i64 i3, .int .i64 i4, .int .i64 i5] 91) = w3 at *
 generalize e0s f1 w2.heap.size = f3 at *
 generalize w2.heap.size = h2 at *
 have HF1 := HF1'
 have HF0 := HF0'
 clear HF1' HF0'
 have HSD := h_ (show ST w3.drew f3 B g n x v from HS3.out.below (Below.refl _ _).drew)
 have HCD := h_ (show Acc w f w3.drew f3 from HC3.out.below (Below.refl _ _).drew)
 have HO2 := h_ (show w3.drew.ownsRow B 91 6 (.slice ph c.hand.length caph) c.hand.length (insL c.hand) by rw [← hvh]; exact (HSD.out.core_own hx hvx).2.2.1)
 have HK3 := h_ (show B ≤ w3.drew.heap.size from Nat.le_trans HSD.out.le (Nat.le_of_lt HSD.out.lt))
 have q3 := HS3.out.coreCell hx hvx hvo 4 (by decide)
 simp only [g0v, gz_, gs_, hvh] at q3
 obtain ⟨q31, q32, q33⟩ := q3
 have i0c := HI3.out.cell 0
 have i1c := HI3.out.cell 1
 have i2c := HI3.out.cell 2
 have i3c := HI3.out.cell 3
 have i4c := HI3.out.cell 4
 have i5c := HI3.out.cell 5
 have ilt := HI3.out.lt
 simp only [gz_, gs_] at i0c i1c i2c i3c i4c i5c
 go_region_law? ((refine f0b rfl _ _ 80 rfl B 91 _ 6 48 l1x rfl (by decide) _ _ _ (by rfl) HO2.out [.int .i64 i0, .int .i64 i1, .int .i64 i2, .int .i64 i3, .int .i64 i4, .int .i64 i5] rfl _ (by rfl) (by rfl) (by simp [Value.oneCell']) HK1.out HK2.out HK3.out ?_; intro v' w5 ho hg hk; obtain ⟨p3, c3, hv3, _⟩ := a0z ho; subst hv3; obtain ⟨f4, hA, hS4⟩ := HSD.out.app_hand hx hvx hvo ⟨i0, i1, i2, i3, i4, i5⟩ (by rw [hvh]; exact hg) ho (by rw [hvh]; exact hk) HK4.out; have hd := hA.cell; have he := hA.free; have hgl3 := hA.lt))
 all_goals
  have hsl : f3 gc = lab 7 0 := HSD.out.gcl hvo
  have HC4 := h_ ((HCD.out.gl hA.gl hA.agree (by unfold lab; omega)).set (show f4 gc ≠ 0 by rw [hA.lg]; decide) (l.length * 5 + 4) (.slice p3 (c.hand.length + 1) c3))
  have HR4 := h_ (((HR3.out.below (Below.refl _ _).drew).gl hA.gl (by rw [HF0.out]; unfold lab; omega)).gl ((GL.refl f4 _ w5).set (L := fun n => n = lab 7 0) hA.lg (l.length * 5 + 4) (.slice p3 (c.hand.length + 1) c3)) (by rw [hA.agree _ (by simpa using HR3.out.lt), HF0.out]; unfold lab; omega))
  have HP4 := h_ (((HP3.out.below (Below.refl _ _).drew).gl hA.gl (by rw [HF1.out]; unfold lab; omega)).gl ((GL.refl f4 _ w5).set (L := fun n => n = lab 7 0) hA.lg (l.length * 5 + 4) (.slice p3 (c.hand.length + 1) c3)) (by rw [hA.agree _ (by simpa using HP3.out.lt), HF1.out]; unfold lab; omega))
  have HF0 := h_ (show f4 h0 = 15 by rw [hA.agree _ (by simpa using HR3.out.lt)]; exact HF0.out)
  have HF1 := h_ (show f4 h1 = 15 by rw [hA.agree _ (by simpa using HP3.out.lt)]; exact HF1.out)
  have HS4 := h_ hS4
  clear hA hS4 hd he q31 q32 q33 i0c i1c i2c i3c i4c i5c ilt HSD HCD HO2 HS3 HC3 HR3 HP3 HI3 HF2 ho hg hk
  generalize w5.setCell ⟨gc, l.length * 5 + 4, none⟩ (.slice p3 (c.hand.length + 1) c3) = w6 at *
  have e14 := HS4.out.blk.cell 14
  have hgl := HS4.out.lt
  simp only [stC, gz_, gs_, hqo] at e14
  go_wp2_with fail
  have HSE := h_ (show ST w6.drew f4 B g (n + 1) _ _ from HS4.out.below (Below.refl _ _).drew)
  have HCE := h_ (show Acc w f w6.drew f4 from HC4.out.below (Below.refl _ _).drew)
  have HO3 := h_ (show w6.drew.ownsRow B 3 1 (.slice pq q.length capq) q.length (q.map i64V) by rw [← hqv]; exact (HSE.out.ins_own hq hqx).1)
  have HK9 := h_ (show B ≤ w6.drew.heap.size from Nat.le_trans HSE.out.le (Nat.le_of_lt HSE.out.lt))
  have k3 := HS4.out.insCell hq hqx hqo
  rw [hqv] at k3
  obtain ⟨k31, k32, k33⟩ := k3
  have hqi : (ql.length : Int) < (ql.length : Int) + 1 := by omega
  have r0 := HR4.out.cell 0
  have r1 := HR4.out.cell 1
  have r4 := HR4.out.lt
  simp only [gz_, gs_] at r0 r1
  have hgpl := HSE.out.parts.pI.2 gp (by show Value.ownBlock v.vPI = some gp; rw [hqo]; rfl)
  have hne1 : gp ≠ g := by
   intro e; subst e; have h2 := HSE.out.lg; rw [hgpl] at h2; unfold lab at h2; omega
  have hne2 : gp ≠ h0 := by
   intro e; subst e; have h2 := HF0.out; rw [hgpl] at h2; unfold lab at h2; omega
  clear hgpl
  refine wp_region_held_drew (S := (fun w' => w'.cell? ⟨g, 14, none⟩ = some (.slice (some ⟨gp, 0, none⟩) (ql.length + 1) capp) ∧ w'.cell? ⟨h0, 1, none⟩ = some (.int .i64 at_))) (by kernel_rfl) (by (try dsimp only); exact ⟨e14, r1⟩) (fun hHeld => ?_)
  refine tk1 0 61 rfl ?_
  simp only [Act.put, tka, tk0, tkS]
  refine tk1 1 62 rfl ?_
  simp only [Act.put, tka, tk0, tkS]
  refine tk1 2 63 rfl ?_
  simp only [Act.put, tka, tk0, tkS]
  refine tk1 3 64 rfl ?_
  simp only [Act.put, tka, tk0, tkS]
  refine tk1 4 65 rfl ?_
  simp only [Act.put, tka, tk0, tkS]
  refine tk1 5 66 rfl ?_
  simp only [Act.put, tka, tk0, tkS]
  refine tk1 6 67 rfl ?_
  simp only [Act.put, tka, tk0, tkS]
  refine tk1 7 68 rfl ?_
  simp only [Act.put, tka, tk0, tkS]
  refine tk1 8 69 rfl ?_
  simp only [Act.put, tka, tk0, tkS]
  refine tk1 9 70 rfl ?_
  simp only [Act.put, tka, tk0, tkS]
  refine tk1 10 71 rfl ?_
  simp only [Act.put, tka, tk0, tkS]
  refine tk1 11 72 rfl ?_
  simp only [Act.put, tka, tk0, tkS]
  refine tk1 12 73 rfl ?_
  simp only [Act.put, tka, tk0, tkS]
  refine tk1 13 74 rfl ?_
  simp only [Act.put, tka, tk0, tkS]
  refine tk1 14 75 rfl ?_
  simp only [Act.put, tka, tk0, tkS]
  refine tk1 16 77 rfl ?_
  simp only [Act.put, tka, tk0, tkS]
  refine tk1 17 78 rfl ?_
  simp only [Act.put, tka, tk0, tkS]
  refine wpAnyH_ready (rs := [15, 18]) (by kernel_rfl) (by simp) ?_
  refine AllReadyH.cons (o := ⟨some 76, _, _, _, _, _⟩) rfl (fun K hK => ?_) ?_
  ·go_simp
   refine hK.out _ _ (by (try dsimp only); exact ⟨e14, r1⟩) ?_
   clear hK K hHeld
   intro hHeld
   try simp only [Act.put, tka, tk0, tkS]
   refine wpAnyH_ready (rs := [18]) (by kernel_rfl) (by simp) ?_
   refine AllReadyH.cons (o := ⟨some 79, _, _, _, _, _⟩) rfl (fun K hK => ?_) AllReadyH.nil
   go_simp
   refine hK.out _ _ (by (try dsimp only); exact ⟨b0t e14 _, b0t r1 _⟩) ?_
   clear hK K hHeld
   intro hHeld
   try simp only [Act.put, tka, tk0, tkS]
   refine wpAnyH_ready (rs := [19]) (by kernel_rfl) (by simp) ?_
   refine AllReadyH.cons (o := ⟨some 80, _, _, _, _, _⟩) rfl (fun K hK => ?_) AllReadyH.nil
   refine f0b rfl _ _ 33 rfl B 3 _ 1 8 p0q rfl (by decide) _ _ _ (by rfl) HO3.out [i64V at_] rfl _ (by rfl) (by rfl) (by simp [Value.oneCell', i64V]) HK6.out HK7.out HK9.out ?_
   intro v5 w7 ho hg hk
   obtain ⟨p5, c5, hv5, _⟩ := a0z ho
   subst hv5
   obtain ⟨f5, hA, hS5⟩ := HSE.out.app_ins hq hqx hqo at_ (by rw [hqv]; exact hg) ho (by rw [hqv]; exact hk) HK8.out
   have hd := hA.cell
   have he := hA.free
   have hgl5 := hA.lt
   have e14 := (HSE.out.blk.gl hA.gl (by rw [HSE.out.lg]; unfold lab; omega)).cell 14
   have hgl := (HSE.out.blk.gl hA.gl (by rw [HSE.out.lg]; unfold lab; omega)).lt
   simp only [stC, gz_, gs_, hqo] at e14
   have r1 := ((HR4.out.below (Below.refl _ _).drew).gl hA.gl (by rw [HF0.out]; unfold lab; omega)).cell 1
   simp only [gz_, gs_] at r1
   refine hK.out _ _ (by (try dsimp only); exact ⟨e14, r1⟩) ?_
   clear hK K hHeld
   intro hHeld
   try simp only [Act.put, tka, tk0, tkS]
   refine tk1 20 81 rfl ?_
   simp only [Act.put, tka, tk0, tkS]
   refine wpAnyH_ready (rs := [21]) (by kernel_rfl) (by simp) ?_
   refine AllReadyH.cons (o := ⟨none, _, _, _, _, _⟩) rfl (fun K hK => ?_) AllReadyH.nil
   go_simp
   refine hK.out _ _ (by (try dsimp only); exact ⟨(World.cell?_setCell_far _ _ _ _ hne1).trans e14, (World.cell?_setCell_far _ _ _ _ hne2).trans r1⟩) ?_
   clear hK K hHeld
   intro hHeld
   try simp only [Act.put, tka, tk0, tkS]
   refine wpAnyH_done (by kernel_rfl) ?_ _
   have HC5 := h_ ((HCE.out.gl hA.gl hA.agree (by unfold lab; omega)).set (show f5 gp ≠ 0 by rw [hA.lg]; decide) ql.length (.slice p5 (q.length + 1) c5))
   have HR5 := h_ (((HR4.out.below (Below.refl _ _).drew).gl hA.gl (by rw [HF0.out]; unfold lab; omega)).gl ((GL.refl f5 _ w7).set (L := fun n => n = lab 5 0) hA.lg ql.length (.slice p5 (q.length + 1) c5)) (by rw [hA.agree _ (by simpa using HR4.out.lt), HF0.out]; unfold lab; omega))
   have HP5 := h_ (((HP4.out.below (Below.refl _ _).drew).gl hA.gl (by rw [HF1.out]; unfold lab; omega)).gl ((GL.refl f5 _ w7).set (L := fun n => n = lab 5 0) hA.lg ql.length (.slice p5 (q.length + 1) c5)) (by rw [hA.agree _ (by simpa using HP4.out.lt), HF1.out]; unfold lab; omega))
   have HF1 := h_ (show f5 h1 = 15 by rw [hA.agree _ (by simpa using HP4.out.lt)]; exact HF1.out)
   have HS5 := h_ hS5
   clear hA hS5 hd he k31 k32 k33 e14 r0 r1 r4 HSE HCE HO3 HS4 HC4 HR4 HP4 HF0 ho hg hk
   generalize w7.setCell ⟨gp, ql.length, none⟩ (.slice p5 (q.length + 1) c5) = w8 at *
   have HQ := h_ ((HP5.out.set 0 (.int .i64 (0))).set 1 (.int .i64 (0)))
   have HSq := h_ ((HS5.out.set15 HF1.out 0 (.int .i64 (0))).set15 HF1.out 1 (.int .i64 (0)))
   have HCq := h_ ((HC5.out.set (by rw [HF1.out]; decide) 0 (.int .i64 (0))).set (by rw [HF1.out]; decide) 1 (.int .i64 (0)))
   have p0 := HP5.out.cell 0
   have p1 := HP5.out.cell 1
   have p2 := HP5.out.free 0
   have p3 := HP5.out.free 1
   have p4 := HP5.out.lt
   have r0 := HR5.out.cell 0
   have r1 := HR5.out.cell 1
   have r4 := HR5.out.lt
   simp only [gz_, gs_] at p0 p1 r0 r1
   go_wp2_with fail
   exact bodyPost_ret (results_cell_row rfl _ _ h1 41 #[.int .i64 (0), .int .i64 (0)] (0, 0) _ rfl HQ.out Tryz.underlying41 rfl (by kernel_rfl)) rfl (by rw [HX.out]; exact g0x.of HSq.out HCq.out)
  refine AllReadyH.cons (o := ⟨some 79, _, _, _, _, _⟩) rfl (fun K hK => ?_) ?_
  ·go_simp
   refine hK.out _ _ (by (try dsimp only); exact ⟨b0t e14 _, b0t r1 _⟩) ?_
   clear hK K hHeld
   intro hHeld
   try simp only [Act.put, tka, tk0, tkS]
   refine wpAnyH_ready (rs := [15]) (by kernel_rfl) (by simp) ?_
   refine AllReadyH.cons (o := ⟨some 76, _, _, _, _, _⟩) rfl (fun K hK => ?_) AllReadyH.nil
   go_simp
   refine hK.out _ _ (by (try dsimp only); exact ⟨b0t e14 _, b0t r1 _⟩) ?_
   clear hK K hHeld
   intro hHeld
   try simp only [Act.put, tka, tk0, tkS]
   refine wpAnyH_ready (rs := [19]) (by kernel_rfl) (by simp) ?_
   refine AllReadyH.cons (o := ⟨some 80, _, _, _, _, _⟩) rfl (fun K hK => ?_) AllReadyH.nil
   refine f0b rfl _ _ 33 rfl B 3 _ 1 8 p0q rfl (by decide) _ _ _ (by rfl) HO3.out [i64V at_] rfl _ (by rfl) (by rfl) (by simp [Value.oneCell', i64V]) HK6.out HK7.out HK9.out ?_
   intro v5 w7 ho hg hk
   obtain ⟨p5, c5, hv5, _⟩ := a0z ho
   subst hv5
   obtain ⟨f5, hA, hS5⟩ := HSE.out.app_ins hq hqx hqo at_ (by rw [hqv]; exact hg) ho (by rw [hqv]; exact hk) HK8.out
   have hd := hA.cell
   have he := hA.free
   have hgl5 := hA.lt
   have e14 := (HSE.out.blk.gl hA.gl (by rw [HSE.out.lg]; unfold lab; omega)).cell 14
   have hgl := (HSE.out.blk.gl hA.gl (by rw [HSE.out.lg]; unfold lab; omega)).lt
   simp only [stC, gz_, gs_, hqo] at e14
   have r1 := ((HR4.out.below (Below.refl _ _).drew).gl hA.gl (by rw [HF0.out]; unfold lab; omega)).cell 1
   simp only [gz_, gs_] at r1
   refine hK.out _ _ (by (try dsimp only); exact ⟨e14, r1⟩) ?_
   clear hK K hHeld
   intro hHeld
   try simp only [Act.put, tka, tk0, tkS]
   refine tk1 20 81 rfl ?_
   simp only [Act.put, tka, tk0, tkS]
   refine wpAnyH_ready (rs := [21]) (by kernel_rfl) (by simp) ?_
   refine AllReadyH.cons (o := ⟨none, _, _, _, _, _⟩) rfl (fun K hK => ?_) AllReadyH.nil
   go_simp
   refine hK.out _ _ (by (try dsimp only); exact ⟨(World.cell?_setCell_far _ _ _ _ hne1).trans e14, (World.cell?_setCell_far _ _ _ _ hne2).trans r1⟩) ?_
   clear hK K hHeld
   intro hHeld
   try simp only [Act.put, tka, tk0, tkS]
   refine wpAnyH_done (by kernel_rfl) ?_ _
   have HC5 := h_ ((HCE.out.gl hA.gl hA.agree (by unfold lab; omega)).set (show f5 gp ≠ 0 by rw [hA.lg]; decide) ql.length (.slice p5 (q.length + 1) c5))
   have HR5 := h_ (((HR4.out.below (Below.refl _ _).drew).gl hA.gl (by rw [HF0.out]; unfold lab; omega)).gl ((GL.refl f5 _ w7).set (L := fun n => n = lab 5 0) hA.lg ql.length (.slice p5 (q.length + 1) c5)) (by rw [hA.agree _ (by simpa using HR4.out.lt), HF0.out]; unfold lab; omega))
   have HP5 := h_ (((HP4.out.below (Below.refl _ _).drew).gl hA.gl (by rw [HF1.out]; unfold lab; omega)).gl ((GL.refl f5 _ w7).set (L := fun n => n = lab 5 0) hA.lg ql.length (.slice p5 (q.length + 1) c5)) (by rw [hA.agree _ (by simpa using HP4.out.lt), HF1.out]; unfold lab; omega))
   have HF1 := h_ (show f5 h1 = 15 by rw [hA.agree _ (by simpa using HP4.out.lt)]; exact HF1.out)
   have HS5 := h_ hS5
   clear hA hS5 hd he k31 k32 k33 e14 r0 r1 r4 HSE HCE HO3 HS4 HC4 HR4 HP4 HF0 ho hg hk
   generalize w7.setCell ⟨gp, ql.length, none⟩ (.slice p5 (q.length + 1) c5) = w8 at *
   have HQ := h_ ((HP5.out.set 0 (.int .i64 (0))).set 1 (.int .i64 (0)))
   have HSq := h_ ((HS5.out.set15 HF1.out 0 (.int .i64 (0))).set15 HF1.out 1 (.int .i64 (0)))
   have HCq := h_ ((HC5.out.set (by rw [HF1.out]; decide) 0 (.int .i64 (0))).set (by rw [HF1.out]; decide) 1 (.int .i64 (0)))
   have p0 := HP5.out.cell 0
   have p1 := HP5.out.cell 1
   have p2 := HP5.out.free 0
   have p3 := HP5.out.free 1
   have p4 := HP5.out.lt
   have r0 := HR5.out.cell 0
   have r1 := HR5.out.cell 1
   have r4 := HR5.out.lt
   simp only [gz_, gs_] at p0 p1 r0 r1
   go_wp2_with fail
   exact bodyPost_ret (results_cell_row rfl _ _ h1 41 #[.int .i64 (0), .int .i64 (0)] (0, 0) _ rfl HQ.out Tryz.underlying41 rfl (by kernel_rfl)) rfl (by rw [HX.out]; exact g0x.of HSq.out HCq.out)
  exact AllReadyH.nil
theorem f1k {w : World} {f : Nat → Nat} {B g n : Nat} {x : SrcA} {v : SrcV} (hS : ST w f B g n x v) (t : ByteArray) (at_ : Int) (hn : n < 19000) (ht : t.size ≤ 1100000) (hp : x.pI.length = x.cores.length) :
  Calls Tryz.prog 88 #[.pointer (some ⟨g, 0, none⟩), .agg #[.string t, .int .i64 at_]] w (g0x w f B g (n + 2) (insR x t at_)) := by
 by_cases h0 : x.cores.length = 0
 ·exact a1k hS t at_ hn ht h0
 ·obtain ⟨l, c, hx, _⟩ := i0y x.cores (x.cores.length - 1) (by omega)
  rcases hP : f0o t.data.toList with ⟨⟨i0, i1, i2, i3, i4, i5⟩, code⟩
  by_cases hc : code = 0
  ·subst hc
   obtain ⟨ql, q, hq, _⟩ := i0y x.pI (x.pI.length - 1) (by omega)
   by_cases ha : x.after = 2
   ·exact a1m hS t at_ hn ht hx hP hq ha
   ·exact a1l hS t at_ hn ht hx hP hq ha
  ·exact f1j hS t at_ hn ht hx hP hc
end
end Go.Proofs.YtmnojnopejhebaaGreat
