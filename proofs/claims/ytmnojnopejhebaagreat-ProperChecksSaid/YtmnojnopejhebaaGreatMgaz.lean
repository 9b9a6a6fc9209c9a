/- The state's function row. -/
import Derived.Test.YtmnojnopejhebaaGreatMgac
import Derived.Test.YtmnojnopejhebaaGreatMgax
import Derived.Test.YtmnojnopejhebaaGreatMgay
namespace Go.Proofs.YtmnojnopejhebaaGreat
set_option linter.unusedVariables false
set_option linter.unusedSimpArgs false
set_option maxRecDepth 100000
set_option maxHeartbeats 25600000
section
open Go.RowKit
def labN (f : Nat → Nat) (k : Nat) : Nat → Nat := fun i => if i < k then f i else 0
theorem f0w (f : Nat → Nat) (k : Nat) : ∀ i, i < k → labN f k i = f i := fun i hi => if_pos hi
theorem m0q (f : Nat → Nat) (k i : Nat) (h : k ≤ i) : labN f k i = 0 := if_neg (by omega)
theorem l1p {w : World} {base : Nat} {e : TypeId} {size : Nat} {p : Option Addr} {n c : Nat} {xs : List Value} (h : w.ownsRow base e size (.slice p n c) n xs) : ∀ a, p = some a → base ≤ a.block := by
 intro a ha
 obtain ⟨_, ⟨h1, h2⟩ | ⟨g, cap, cur, h1, hb, hg, _⟩⟩ := h
 ·injection h1 with e1; rw [e1] at ha; cases ha
 ·injection h1 with e1; rw [e1] at ha; injection ha with ha; rw [← ha]; exact hb
theorem ST.set0 {w : World} {f : Nat → Nat} {B g n k : Nat} {x : SrcA} {v : SrcV} (h : ST w f B g n x v) (hk : f k = 0) (j : Nat) (u : Value) : ST (w.setCell ⟨k, j, none⟩ u) f B g n x v := h.gl (L := fun l => l = 0) ((GL.refl _ _ _).set hk j u) (fun _ _ => rfl) (fun l hl => by subst hl; left; rfl)
theorem Acc.new {w w1 : World} {f f1 : Nat → Nat} {k : Nat} (h : Acc w f w1 f1) (hk : w.heap.size ≤ k) (j : Nat) (u : Value) : Acc w f (w1.setCell ⟨k, j, none⟩ u) f1 :=
 ⟨h.1, h.2.os, h.2.tape, h.2.output, by simpa using h.2.size, fun i hi hl => (Below.heap_setCell w1 ⟨k, j, none⟩ u i (fun e => by have e' : i = k := e; omega)).trans (h.2.block i hi hl)⟩
theorem c1f (s : ByteArray) (at_ : Nat) (l : List (Nat × Nat × Nat)) (h : s.size ≤ 1048576) : ∀ t ∈ tkOf s at_ l, t.2.1.size ≤ 1048576 := by
 intro t ht
 simp only [tkOf, List.mem_map] at ht
 obtain ⟨r, _, rfl⟩ := ht
 show (s.extract r.2.1 r.2.2).size ≤ 1048576
 simp
 omega
theorem h1g {w : World} {f : Nat → Nat} {B g n : Nat} {x : SrcA} {v : SrcV} (hS : ST w f B g n x v) (t : ByteArray) (at_ : Nat) (hn : n < 19000) (ht : t.size ≤ 16384) (hat : at_ ≤ 16384) {wd : ByteArray} (hw : t.extract 0 (c0t t 0) = wd) (h4 : x.after = 4) :
  Calls Tryz.prog 57 #[.pointer (some ⟨g, 0, none⟩), .agg #[.string t, .int .i64 ((at_ : Nat) : Int)]] w (g0x w f B g (n + 3) (rowA x t at_)) := by
 have HX := h_ (show rowA x t at_ = (x, 110, ((at_ : Nat) : Int)) by unfold rowA; rw [if_pos (.inl h4)])
 have ha4 : (((x.after : Nat) : Int) == 4) = true := by exact beq_iff_eq.2 (by omega)
 have HW := h_ hw
 replace hS := hS.mono (show n ≤ n + 3 by omega) (by omega)
 clear hw h4
 have HW1 := h_ (show Below w.heap.size w ((w.alloc (.cells #[.string t, .int .i64 ((at_ : Nat) : Int)] 114)).alloc (.cells #[.int .i64 0, .int .i64 0] 41)) from bl_ (bl_ (Below.refl _ _) _) _)
 have HF1 := h_ (m0q f w.heap.size)
 have HS1 := h_ ((hS.relab (f0w f w.heap.size)).below HW1.out)
 have HC1 := h_ (((Acc.refl w f).relab (f0w f w.heap.size)).below HW1.out)
 have HR1 := h_ (show Blk ((w.alloc (.cells #[.string t, .int .i64 ((at_ : Nat) : Int)] 114)).alloc (.cells #[.int .i64 0, .int .i64 0] 41)) 114 w.heap.size [.string t, .int .i64 ((at_ : Nat) : Int)] from (Blk.new w _ _).alloc _)
 have HP1 := h_ (show Blk ((w.alloc (.cells #[.string t, .int .i64 ((at_ : Nat) : Int)] 114)).alloc (.cells #[.int .i64 0, .int .i64 0] 41)) 41 (w.heap.size + 1) [.int .i64 0, .int .i64 0] from by simpa using Blk.new (w.alloc (.cells #[.string t, .int .i64 ((at_ : Nat) : Int)] 114)) 41 [.int .i64 0, .int .i64 0])
 have hz1 : w.heap.size + 1 < ((w.alloc (.cells #[.string t, .int .i64 ((at_ : Nat) : Int)] 114)).alloc (.cells #[.int .i64 0, .int .i64 0] 41)).heap.size := by simp
 have HFI := h_ (fun w1 => j0a t ((at_ : Nat) : Int) w1 (by omega))
 clear hS HW1
 go_enter Tryz.func57, Tryz.ntmps57
 go_wp2_with fail
 generalize (w.alloc (.cells #[.string t, .int .i64 ((at_ : Nat) : Int)] 114)).alloc (.cells #[.int .i64 0, .int .i64 0] 41) = w1 at *
 generalize labN f w.heap.size = f1 at *
 have HHle := h_ (show w.heap.size ≤ w.heap.size + 1 by omega)
 have HH : w.heap.size < w.heap.size + 1 := by omega
 generalize w.heap.size + 1 = h1 at *
 obtain ⟨h0, hh0⟩ : ∃ h0, h0 = w.heap.size := ⟨_, rfl⟩
 rw [← hh0] at HH HR1 ⊢
 clear hh0
 refine (HFI.out _).mono ?_
 rintro e w2 ⟨rfl, hb⟩
 rw [HW.out]
 have hz2 := hb.size
 have HS2 := h_ (HS1.out.below hb)
 have HC2 := h_ (HC1.out.below hb)
 have HR2 := h_ (HR1.out.below hb)
 have HP2 := h_ (HP1.out.below hb)
 clear hb HS1 HC1 HR1 HP1
 have c16 := HS2.out.after
 have hgl := HS2.out.lt
 have r0 := HR2.out.cell 0
 have r1 := HR2.out.cell 1
 have r4 := HR2.out.lt
 simp only [gz_, gs_] at r0 r1
 have HQ := h_ ((HP2.out.set 0 (.int .i64 (110))).set 1 (.int .i64 (((at_ : Nat) : Int))))
 have HSq := h_ ((HS2.out.set0 (HF1.out _ HHle.out) 0 (.int .i64 (110))).set0 (HF1.out _ HHle.out) 1 (.int .i64 (((at_ : Nat) : Int))))
 have HCq := h_ ((HC2.out.new HHle.out 0 (.int .i64 (110))).new HHle.out 1 (.int .i64 (((at_ : Nat) : Int))))
 have p0 := HP2.out.cell 0
 have p1 := HP2.out.cell 1
 have p2 := HP2.out.free 0
 have p3 := HP2.out.free 1
 have p4 := HP2.out.lt
 simp only [gz_, gs_] at p0 p1
 go_wp2_with fail
 exact bodyPost_ret (results_cell_row rfl _ _ h1 41 #[.int .i64 (110), .int .i64 (((at_ : Nat) : Int))] (0, 0) _ rfl HQ.out Tryz.underlying41 rfl (by kernel_rfl)) rfl (by rw [HX.out]; exact g0x.of HSq.out HCq.out)
theorem c1y {w : World} {f : Nat → Nat} {B g n : Nat} {x : SrcA} {v : SrcV} (hS : ST w f B g n x v) (t : ByteArray) (at_ : Nat) (hn : n < 19000) (ht : t.size ≤ 16384) (hat : at_ ≤ 16384) {wd : ByteArray} (hw : t.extract 0 (c0t t 0) = wd) (h0 : x.after = 0) (hnt : ¬ wd = j0i) :
  Calls Tryz.prog 57 #[.pointer (some ⟨g, 0, none⟩), .agg #[.string t, .int .i64 ((at_ : Nat) : Int)]] w (g0x w f B g (n + 3) (rowA x t at_)) := by
 have HX := h_ (show rowA x t at_ = (x, 110, ((at_ : Nat) : Int)) by unfold rowA; rw [hw, if_pos (.inr (by simp [h0, hnt]))])
 have ha4 : (((x.after : Nat) : Int) == 4) = false := by rw [beq_eq_false_iff_ne]; omega
 have ha0 : (((x.after : Nat) : Int) == 0) = true := by exact beq_iff_eq.2 (by omega)
 have hwt : (wd.toList == ([116, 101, 115, 116] : List UInt8)) = false := e0k hnt
 have HW := h_ hw
 replace hS := hS.mono (show n ≤ n + 3 by omega) (by omega)
 clear hw h0 hnt
 have HW1 := h_ (show Below w.heap.size w ((w.alloc (.cells #[.string t, .int .i64 ((at_ : Nat) : Int)] 114)).alloc (.cells #[.int .i64 0, .int .i64 0] 41)) from bl_ (bl_ (Below.refl _ _) _) _)
 have HF1 := h_ (m0q f w.heap.size)
 have HS1 := h_ ((hS.relab (f0w f w.heap.size)).below HW1.out)
 have HC1 := h_ (((Acc.refl w f).relab (f0w f w.heap.size)).below HW1.out)
 have HR1 := h_ (show Blk ((w.alloc (.cells #[.string t, .int .i64 ((at_ : Nat) : Int)] 114)).alloc (.cells #[.int .i64 0, .int .i64 0] 41)) 114 w.heap.size [.string t, .int .i64 ((at_ : Nat) : Int)] from (Blk.new w _ _).alloc _)
 have HP1 := h_ (show Blk ((w.alloc (.cells #[.string t, .int .i64 ((at_ : Nat) : Int)] 114)).alloc (.cells #[.int .i64 0, .int .i64 0] 41)) 41 (w.heap.size + 1) [.int .i64 0, .int .i64 0] from by simpa using Blk.new (w.alloc (.cells #[.string t, .int .i64 ((at_ : Nat) : Int)] 114)) 41 [.int .i64 0, .int .i64 0])
 have hz1 : w.heap.size + 1 < ((w.alloc (.cells #[.string t, .int .i64 ((at_ : Nat) : Int)] 114)).alloc (.cells #[.int .i64 0, .int .i64 0] 41)).heap.size := by simp
 have HFI := h_ (fun w1 => j0a t ((at_ : Nat) : Int) w1 (by omega))
 clear hS HW1
 go_enter Tryz.func57, Tryz.ntmps57
 go_wp2_with fail
 generalize (w.alloc (.cells #[.string t, .int .i64 ((at_ : Nat) : Int)] 114)).alloc (.cells #[.int .i64 0, .int .i64 0] 41) = w1 at *
 generalize labN f w.heap.size = f1 at *
 have HHle := h_ (show w.heap.size ≤ w.heap.size + 1 by omega)
 have HH : w.heap.size < w.heap.size + 1 := by omega
 generalize w.heap.size + 1 = h1 at *
 obtain ⟨h0, hh0⟩ : ∃ h0, h0 = w.heap.size := ⟨_, rfl⟩
 rw [← hh0] at HH HR1 ⊢
 clear hh0
 refine (HFI.out _).mono ?_
 rintro e w2 ⟨rfl, hb⟩
 rw [HW.out]
 have hz2 := hb.size
 have HS2 := h_ (HS1.out.below hb)
 have HC2 := h_ (HC1.out.below hb)
 have HR2 := h_ (HR1.out.below hb)
 have HP2 := h_ (HP1.out.below hb)
 clear hb HS1 HC1 HR1 HP1
 have c16 := HS2.out.after
 have hgl := HS2.out.lt
 have r0 := HR2.out.cell 0
 have r1 := HR2.out.cell 1
 have r4 := HR2.out.lt
 simp only [gz_, gs_] at r0 r1
 have HQ := h_ ((HP2.out.set 0 (.int .i64 (110))).set 1 (.int .i64 (((at_ : Nat) : Int))))
 have HSq := h_ ((HS2.out.set0 (HF1.out _ HHle.out) 0 (.int .i64 (110))).set0 (HF1.out _ HHle.out) 1 (.int .i64 (((at_ : Nat) : Int))))
 have HCq := h_ ((HC2.out.new HHle.out 0 (.int .i64 (110))).new HHle.out 1 (.int .i64 (((at_ : Nat) : Int))))
 have p0 := HP2.out.cell 0
 have p1 := HP2.out.cell 1
 have p2 := HP2.out.free 0
 have p3 := HP2.out.free 1
 have p4 := HP2.out.lt
 simp only [gz_, gs_] at p0 p1
 go_wp2_with fail
 exact bodyPost_ret (results_cell_row rfl _ _ h1 41 #[.int .i64 (110), .int .i64 (((at_ : Nat) : Int))] (0, 0) _ rfl HQ.out Tryz.underlying41 rfl (by kernel_rfl)) rfl (by rw [HX.out]; exact g0x.of HSq.out HCq.out)
theorem c1z {w : World} {f : Nat → Nat} {B g n : Nat} {x : SrcA} {v : SrcV} (hS : ST w f B g n x v) (t : ByteArray) (at_ : Nat) (hn : n < 19000) (ht : t.size ≤ 16384) (hat : at_ ≤ 16384) (hw : t.extract 0 (c0t t 0) = ⟨#[116, 101, 115, 116]⟩) (h4 : ¬ x.after = 4) (h0 : ¬ x.after = 0) :
  Calls Tryz.prog 57 #[.pointer (some ⟨g, 0, none⟩), .agg #[.string t, .int .i64 ((at_ : Nat) : Int)]] w (g0x w f B g (n + 3) (rowA x t at_)) := by
 have HX := h_ (show rowA x t at_ = (x, 110, ((at_ : Nat) : Int)) by unfold rowA; rw [hw, if_pos (.inr (by simp [h0, j0i]))])
 have ha4 : (((x.after : Nat) : Int) == 4) = false := by rw [beq_eq_false_iff_ne]; omega
 have ha0 : (((x.after : Nat) : Int) == 0) = false := by rw [beq_eq_false_iff_ne]; omega
 have HW := h_ hw
 replace hS := hS.mono (show n ≤ n + 3 by omega) (by omega)
 clear hw h4 h0
 have HW1 := h_ (show Below w.heap.size w ((w.alloc (.cells #[.string t, .int .i64 ((at_ : Nat) : Int)] 114)).alloc (.cells #[.int .i64 0, .int .i64 0] 41)) from bl_ (bl_ (Below.refl _ _) _) _)
 have HF1 := h_ (m0q f w.heap.size)
 have HS1 := h_ ((hS.relab (f0w f w.heap.size)).below HW1.out)
 have HC1 := h_ (((Acc.refl w f).relab (f0w f w.heap.size)).below HW1.out)
 have HR1 := h_ (show Blk ((w.alloc (.cells #[.string t, .int .i64 ((at_ : Nat) : Int)] 114)).alloc (.cells #[.int .i64 0, .int .i64 0] 41)) 114 w.heap.size [.string t, .int .i64 ((at_ : Nat) : Int)] from (Blk.new w _ _).alloc _)
 have HP1 := h_ (show Blk ((w.alloc (.cells #[.string t, .int .i64 ((at_ : Nat) : Int)] 114)).alloc (.cells #[.int .i64 0, .int .i64 0] 41)) 41 (w.heap.size + 1) [.int .i64 0, .int .i64 0] from by simpa using Blk.new (w.alloc (.cells #[.string t, .int .i64 ((at_ : Nat) : Int)] 114)) 41 [.int .i64 0, .int .i64 0])
 have hz1 : w.heap.size + 1 < ((w.alloc (.cells #[.string t, .int .i64 ((at_ : Nat) : Int)] 114)).alloc (.cells #[.int .i64 0, .int .i64 0] 41)).heap.size := by simp
 have HFI := h_ (fun w1 => j0a t ((at_ : Nat) : Int) w1 (by omega))
 clear hS HW1
 go_enter Tryz.func57, Tryz.ntmps57
 go_wp2_with fail
 generalize (w.alloc (.cells #[.string t, .int .i64 ((at_ : Nat) : Int)] 114)).alloc (.cells #[.int .i64 0, .int .i64 0] 41) = w1 at *
 generalize labN f w.heap.size = f1 at *
 have HHle := h_ (show w.heap.size ≤ w.heap.size + 1 by omega)
 have HH : w.heap.size < w.heap.size + 1 := by omega
 generalize w.heap.size + 1 = h1 at *
 obtain ⟨h0, hh0⟩ : ∃ h0, h0 = w.heap.size := ⟨_, rfl⟩
 rw [← hh0] at HH HR1 ⊢
 clear hh0
 refine (HFI.out _).mono ?_
 rintro e w2 ⟨rfl, hb⟩
 rw [HW.out]
 have hz2 := hb.size
 have HS2 := h_ (HS1.out.below hb)
 have HC2 := h_ (HC1.out.below hb)
 have HR2 := h_ (HR1.out.below hb)
 have HP2 := h_ (HP1.out.below hb)
 clear hb HS1 HC1 HR1 HP1
 have c16 := HS2.out.after
 have hgl := HS2.out.lt
 have r0 := HR2.out.cell 0
 have r1 := HR2.out.cell 1
 have r4 := HR2.out.lt
 simp only [gz_, gs_] at r0 r1
 have HQ := h_ ((HP2.out.set 0 (.int .i64 (110))).set 1 (.int .i64 (((at_ : Nat) : Int))))
 have HSq := h_ ((HS2.out.set0 (HF1.out _ HHle.out) 0 (.int .i64 (110))).set0 (HF1.out _ HHle.out) 1 (.int .i64 (((at_ : Nat) : Int))))
 have HCq := h_ ((HC2.out.new HHle.out 0 (.int .i64 (110))).new HHle.out 1 (.int .i64 (((at_ : Nat) : Int))))
 have p0 := HP2.out.cell 0
 have p1 := HP2.out.cell 1
 have p2 := HP2.out.free 0
 have p3 := HP2.out.free 1
 have p4 := HP2.out.lt
 simp only [gz_, gs_] at p0 p1
 go_wp2_with fail
 exact bodyPost_ret (results_cell_row rfl _ _ h1 41 #[.int .i64 (110), .int .i64 (((at_ : Nat) : Int))] (0, 0) _ rfl HQ.out Tryz.underlying41 rfl (by kernel_rfl)) rfl (by rw [HX.out]; exact g0x.of HSq.out HCq.out)
theorem m1k {w : World} {f : Nat → Nat} {B g n : Nat} {x : SrcA} {v : SrcV} (hS : ST w f B g n x v) (t : ByteArray) (at_ : Nat) (hn : n < 19000) (ht : t.size ≤ 16384) (hat : at_ ≤ 16384) {wd : ByteArray} (hw : t.extract 0 (c0t t 0) = wd) (h4 : ¬ x.after = 4) (h0 : ¬ x.after = 0) (hk : keyB wd = false) (hp : x.pI.length = x.cores.length) :
  Calls Tryz.prog 57 #[.pointer (some ⟨g, 0, none⟩), .agg #[.string t, .int .i64 ((at_ : Nat) : Int)]] w (g0x w f B g (n + 3) (rowA x t at_)) := by
 have hnt : ¬ wd = j0i := by intro e; subst e; revert hk; decide
 have HX := h_ (show rowA x t at_ = insR x t ((at_ : Nat) : Int) by unfold rowA; rw [hw, if_neg (by simp [h4, h0, hnt]), if_pos hk])
 have ha4 : (((x.after : Nat) : Int) == 4) = false := by rw [beq_eq_false_iff_ne]; omega
 have ha0 : (((x.after : Nat) : Int) == 0) = false := by rw [beq_eq_false_iff_ne]; omega
 have hwt : (wd.toList == ([116, 101, 115, 116] : List UInt8)) = false := e0k hnt
 have HW := h_ hw
 have HIN := h_ (fun (w1 : World) (f1 : Nat → Nat) (hS : ST w1 f1 B g n x v) => f1k hS t ((at_ : Nat) : Int) hn (by omega) hp)
 have HK := h_ (w0a wd)
 rw [hk] at HK
 clear hw hnt hk h4 h0 hp
 have HW1 := h_ (show Below w.heap.size w ((w.alloc (.cells #[.string t, .int .i64 ((at_ : Nat) : Int)] 114)).alloc (.cells #[.int .i64 0, .int .i64 0] 41)) from bl_ (bl_ (Below.refl _ _) _) _)
 have HF1 := h_ (m0q f w.heap.size)
 have HS1 := h_ ((hS.relab (f0w f w.heap.size)).below HW1.out)
 have HC1 := h_ (((Acc.refl w f).relab (f0w f w.heap.size)).below HW1.out)
 have HR1 := h_ (show Blk ((w.alloc (.cells #[.string t, .int .i64 ((at_ : Nat) : Int)] 114)).alloc (.cells #[.int .i64 0, .int .i64 0] 41)) 114 w.heap.size [.string t, .int .i64 ((at_ : Nat) : Int)] from (Blk.new w _ _).alloc _)
 have HP1 := h_ (show Blk ((w.alloc (.cells #[.string t, .int .i64 ((at_ : Nat) : Int)] 114)).alloc (.cells #[.int .i64 0, .int .i64 0] 41)) 41 (w.heap.size + 1) [.int .i64 0, .int .i64 0] from by simpa using Blk.new (w.alloc (.cells #[.string t, .int .i64 ((at_ : Nat) : Int)] 114)) 41 [.int .i64 0, .int .i64 0])
 have hz1 : w.heap.size + 1 < ((w.alloc (.cells #[.string t, .int .i64 ((at_ : Nat) : Int)] 114)).alloc (.cells #[.int .i64 0, .int .i64 0] 41)).heap.size := by simp
 have HFI := h_ (fun w1 => j0a t ((at_ : Nat) : Int) w1 (by omega))
 clear hS HW1
 go_enter Tryz.func57, Tryz.ntmps57
 go_wp2_with fail
 generalize (w.alloc (.cells #[.string t, .int .i64 ((at_ : Nat) : Int)] 114)).alloc (.cells #[.int .i64 0, .int .i64 0] 41) = w1 at *
 generalize labN f w.heap.size = f1 at *
 have HHle := h_ (show w.heap.size ≤ w.heap.size + 1 by omega)
 have HH : w.heap.size < w.heap.size + 1 := by omega
 generalize w.heap.size + 1 = h1 at *
 obtain ⟨h0, hh0⟩ : ∃ h0, h0 = w.heap.size := ⟨_, rfl⟩
 rw [← hh0] at HH HR1 ⊢
 clear hh0
 refine (HFI.out _).mono ?_
 rintro e w2 ⟨rfl, hb⟩
 rw [HW.out]
 have hz2 := hb.size
 have HS2 := h_ (HS1.out.below hb)
 have HC2 := h_ (HC1.out.below hb)
 have HR2 := h_ (HR1.out.below hb)
 have HP2 := h_ (HP1.out.below hb)
 clear hb HS1 HC1 HR1 HP1
 have c16 := HS2.out.after
 have hgl := HS2.out.lt
 have r0 := HR2.out.cell 0
 have r1 := HR2.out.cell 1
 have r4 := HR2.out.lt
 simp only [gz_, gs_] at r0 r1
 go_wp2_with fail
 refine (HK.out _).mono ?_
 rintro e w' ⟨rfl, rfl⟩
 go_wp2_with fail
 refine (HIN.out _ _ HS2.out).mono ?_
 rintro e w3 hpost
 generalize insR x t ((at_ : Nat) : Int) = y at *
 obtain ⟨y, ca, cb⟩ := y
 obtain ⟨rfl, f4, v4, hS4, hA4⟩ := hpost
 have hgs := hA4.2.size
 have HS4 := h_ (hS4.mono (show n + 2 ≤ n + 3 by omega) (by omega))
 have HC4 := h_ (HC2.out.trans hA4)
 have HP4 := h_ (HP2.out.gl hA4.2 (by rw [HF1.out _ HHle.out]; exact fun h => h rfl))
 have HF4 := h_ (show f4 h1 = 0 by rw [hA4.1 _ HP2.out.lt]; exact HF1.out _ HHle.out)
 clear hS4 hA4 HS2 HC2 HP2 HR2 c16 r0 r1 r4 hgl
 simp only
 have HQ := h_ ((HP4.out.set 0 (.int .i64 (ca))).set 1 (.int .i64 (cb)))
 have HSq := h_ ((HS4.out.set0 HF4.out 0 (.int .i64 (ca))).set0 HF4.out 1 (.int .i64 (cb)))
 have HCq := h_ ((HC4.out.new HHle.out 0 (.int .i64 (ca))).new HHle.out 1 (.int .i64 (cb)))
 have p0 := HP4.out.cell 0
 have p1 := HP4.out.cell 1
 have p2 := HP4.out.free 0
 have p3 := HP4.out.free 1
 have p4 := HP4.out.lt
 simp only [gz_, gs_] at p0 p1
 go_wp2_with fail
 exact bodyPost_ret (results_cell_row rfl _ _ h1 41 #[.int .i64 (ca), .int .i64 (cb)] (0, 0) _ rfl HQ.out Tryz.underlying41 rfl (by kernel_rfl)) rfl (by rw [HX.out]; exact g0x.of HSq.out HCq.out)
theorem m1m {w : World} {f : Nat → Nat} {B g n : Nat} {x : SrcA} {v : SrcV} (hS : ST w f B g n x v) (t : ByteArray) (at_ : Nat) (hn : n < 19000) (ht : t.size ≤ 16384) (hat : at_ ≤ 16384) {wd : ByteArray} (hw : t.extract 0 (c0t t 0) = wd) (h4 : ¬ x.after = 4) (hq : decide (x.after = 0) = decide (wd = j0i)) (hk : keyB wd = true) (he : ¬ (b0j t 0 []).2.1 = 0) :
  Calls Tryz.prog 57 #[.pointer (some ⟨g, 0, none⟩), .agg #[.string t, .int .i64 ((at_ : Nat) : Int)]] w (g0x w f B g (n + 3) (rowA x t at_)) := by
 have HX := h_ (show rowA x t at_ = (x, (((b0j t 0 []).2.1 : Nat) : Int), g0r at_ (b0j t 0 [])) by unfold rowA; rw [hw, if_neg (by simp [h4, hq]), if_neg (by simp [hk]), if_pos he])
 have ha4 : (((x.after : Nat) : Int) == 4) = false := by rw [beq_eq_false_iff_ne]; omega
 obtain ⟨bb, ha0, hwt⟩ : ∃ bb, (((x.after : Nat) : Int) == 0) = bb ∧ (wd.toList == ([116, 101, 115, 116] : List UInt8)) = bb := by
  by_cases e : wd = j0i
  ·rw [decide_eq_true e] at hq; exact ⟨true, beq_iff_eq.2 (by have := of_decide_eq_true hq; omega), by subst e; kernel_rfl⟩
  ·rw [decide_eq_false e] at hq; exact ⟨false, by rw [beq_eq_false_iff_ne]; have := of_decide_eq_false hq; omega, e0k e⟩
 have hbb : (bb != bb) = false := by simp
 have hcb : ((((b0j t 0 []).2.1 : Nat) : Int) != 0) = true := bne_iff_ne.2 (by omega)
 have HK := h_ (w0a wd)
 rw [hk] at HK
 have HW := h_ hw
 replace hS := hS.mono (show n ≤ n + 3 by omega) (by omega)
 clear hw h4 hq hk he
 have HW1 := h_ (show Below w.heap.size w ((w.alloc (.cells #[.string t, .int .i64 ((at_ : Nat) : Int)] 114)).alloc (.cells #[.int .i64 0, .int .i64 0] 41)) from bl_ (bl_ (Below.refl _ _) _) _)
 have HF1 := h_ (m0q f w.heap.size)
 have HS1 := h_ ((hS.relab (f0w f w.heap.size)).below HW1.out)
 have HC1 := h_ (((Acc.refl w f).relab (f0w f w.heap.size)).below HW1.out)
 have HR1 := h_ (show Blk ((w.alloc (.cells #[.string t, .int .i64 ((at_ : Nat) : Int)] 114)).alloc (.cells #[.int .i64 0, .int .i64 0] 41)) 114 w.heap.size [.string t, .int .i64 ((at_ : Nat) : Int)] from (Blk.new w _ _).alloc _)
 have HP1 := h_ (show Blk ((w.alloc (.cells #[.string t, .int .i64 ((at_ : Nat) : Int)] 114)).alloc (.cells #[.int .i64 0, .int .i64 0] 41)) 41 (w.heap.size + 1) [.int .i64 0, .int .i64 0] from by simpa using Blk.new (w.alloc (.cells #[.string t, .int .i64 ((at_ : Nat) : Int)] 114)) 41 [.int .i64 0, .int .i64 0])
 have hz1 : w.heap.size + 1 < ((w.alloc (.cells #[.string t, .int .i64 ((at_ : Nat) : Int)] 114)).alloc (.cells #[.int .i64 0, .int .i64 0] 41)).heap.size := by simp
 have HFI := h_ (fun w1 => j0a t ((at_ : Nat) : Int) w1 (by omega))
 clear hS HW1
 go_enter Tryz.func57, Tryz.ntmps57
 go_wp2_with fail
 generalize (w.alloc (.cells #[.string t, .int .i64 ((at_ : Nat) : Int)] 114)).alloc (.cells #[.int .i64 0, .int .i64 0] 41) = w1 at *
 generalize labN f w.heap.size = f1 at *
 have HHle := h_ (show w.heap.size ≤ w.heap.size + 1 by omega)
 have HH : w.heap.size < w.heap.size + 1 := by omega
 generalize w.heap.size + 1 = h1 at *
 obtain ⟨h0, hh0⟩ : ∃ h0, h0 = w.heap.size := ⟨_, rfl⟩
 rw [← hh0] at HH HR1 ⊢
 clear hh0
 refine (HFI.out _).mono ?_
 rintro e w2 ⟨rfl, hb⟩
 rw [HW.out]
 have hz2 := hb.size
 have HS2 := h_ (HS1.out.below hb)
 have HC2 := h_ (HC1.out.below hb)
 have HR2 := h_ (HR1.out.below hb)
 have HP2 := h_ (HP1.out.below hb)
 clear hb HS1 HC1 HR1 HP1
 have c16 := HS2.out.after
 have hgl := HS2.out.lt
 have r0 := HR2.out.cell 0
 have r1 := HR2.out.cell 1
 have r4 := HR2.out.lt
 simp only [gz_, gs_] at r0 r1
 go_wp2_with fail
 refine (HK.out _).mono ?_
 rintro e w' ⟨rfl, rfl⟩
 go_wp2_with fail
 refine (q0i t at_ _ (by omega) (by omega)).mono ?_
 rintro e w3 ⟨v3, rfl, ho, hb⟩
 have HQ := h_ ((((HP2.out.below hb).set 0 (.int .i64 (((b0j t 0 []).2.1 : Nat) : Int))).set 1 (.int .i64 (g0r at_ (b0j t 0 [])))).alloc (.cells #[.int .i64 (((b0j t 0 []).2.1 : Nat) : Int), .int .i64 (g0r at_ (b0j t 0 []))] 41))
 have HSq := h_ ((((HS2.out.below hb).set0 (HF1.out _ HHle.out) 0 (.int .i64 (((b0j t 0 []).2.1 : Nat) : Int))).set0 (HF1.out _ HHle.out) 1 (.int .i64 (g0r at_ (b0j t 0 [])))).below (bl_ (Below.refl _ _) (.cells #[.int .i64 (((b0j t 0 []).2.1 : Nat) : Int), .int .i64 (g0r at_ (b0j t 0 []))] 41)))
 have HCq := h_ ((((HC2.out.below hb).new HHle.out 0 (.int .i64 (((b0j t 0 []).2.1 : Nat) : Int))).new HHle.out 1 (.int .i64 (g0r at_ (b0j t 0 [])))).below (bl_ (Below.refl _ _) (.cells #[.int .i64 (((b0j t 0 []).2.1 : Nat) : Int), .int .i64 (g0r at_ (b0j t 0 []))] 41)))
 have p0 := (HP2.out.below hb).cell 0
 have p1 := (HP2.out.below hb).cell 1
 have p2 := (HP2.out.below hb).free 0
 have p3 := (HP2.out.below hb).free 1
 have p4 := (HP2.out.below hb).lt
 simp only [gz_, gs_] at p0 p1
 clear hb ho HP2 HS2 HC2 HR2 r0 r1 r4 c16
 generalize g0r at_ (b0j t 0 []) = ta at *
 generalize ((b0j t 0 []).2.1 : Nat) = tb at *
 go_wp2_with fail
 exact bodyPost_ret (results_cell_row rfl _ _ h1 41 #[.int .i64 (tb : Nat), .int .i64 ta] (0, 0) _ rfl HQ.out Tryz.underlying41 rfl (by kernel_rfl)) rfl (by rw [HX.out]; exact g0x.of HSq.out HCq.out)
theorem t0e {P : Program} {fn : FuncId} {args : Array Value} {w : World} {f : Nat → Nat} {B g k k' r tn : Nat} {p : Option Addr} {c : Nat} {tk : List Tk} {y y' : SrcA × RS} (hk : k ≤ k') (hk' : k' ≤ 20000) (hy : y = y')
  (h : Calls P fn args w (d0d w f B g k r tn p c tk y)) : Calls P fn args w (d0d w f B g k' r tn p c tk y') := by
 subst hy
 exact h.mono fun e w' ⟨he, f', v', hS, r⟩ => ⟨he, f', v', hS.mono hk hk', r⟩
theorem m1j {w : World} {f : Nat → Nat} {B g n : Nat} {x : SrcA} {v : SrcV} (hS : ST w f B g n x v) (t : ByteArray) (at_ : Nat) (hn : n < 19000) (ht : t.size ≤ 16384) (hat : at_ ≤ 16384) {wd : ByteArray} (hw : t.extract 0 (c0t t 0) = wd) (h4 : ¬ x.after = 4) (hq : decide (x.after = 0) = decide (wd = j0i)) (hk : keyB wd = true) (hc : (b0j t 0 []).2.1 = 0) :
  Calls Tryz.prog 57 #[.pointer (some ⟨g, 0, none⟩), .agg #[.string t, .int .i64 ((at_ : Nat) : Int)]] w (g0x w f B g (n + 3) (rowA x t at_)) := by
 obtain ⟨Y, hY⟩ : ∃ Y, Y = (g0y (tkOf t at_ (b0j t 0 []).1) x (a0v (tkOf t at_ (b0j t 0 []).1) ⟨0, 0, 0⟩) wd ((at_ : Nat) : Int)) := ⟨_, rfl⟩
 have HX := h_ (show rowA x t at_ = (Y.1, (endR (tkOf t at_ (b0j t 0 []).1) Y.2).code, (endR (tkOf t at_ (b0j t 0 []).1) Y.2).at_) by unfold rowA; rw [hw, if_neg (by simp [h4, hq]), if_neg (by simp [hk]), if_neg (by simp [hc]), hY])
 have ha4 : (((x.after : Nat) : Int) == 4) = false := by rw [beq_eq_false_iff_ne]; omega
 obtain ⟨bb, ha0, hwt⟩ : ∃ bb, (((x.after : Nat) : Int) == 0) = bb ∧ (wd.toList == ([116, 101, 115, 116] : List UInt8)) = bb := by
  by_cases e : wd = j0i
  ·rw [decide_eq_true e] at hq; exact ⟨true, beq_iff_eq.2 (by have := of_decide_eq_true hq; omega), by subst e; kernel_rfl⟩
  ·rw [decide_eq_false e] at hq; exact ⟨false, by rw [beq_eq_false_iff_ne]; have := of_decide_eq_false hq; omega, e0k e⟩
 have hbb : (bb != bb) = false := by simp
 have HK := h_ (w0a wd)
 rw [hk] at HK
 have HKW := h_ (show wd = ⟨#[116, 101, 115, 116]⟩ ∨ wd = ⟨#[116, 97, 98, 108, 101]⟩ ∨ wd = ⟨#[99, 101, 108, 108]⟩ ∨ wd = ⟨#[99, 111, 114, 101]⟩ ∨ wd = ⟨#[114, 101, 103]⟩ ∨ wd = ⟨#[104, 97, 110, 100, 108, 101, 114]⟩ ∨ wd = ⟨#[101, 120, 105, 115, 116, 115]⟩ ∨ wd = ⟨#[102, 111, 114, 97, 108, 108]⟩ from by
  have h2 : wd = j0i ∨ wd = h0a ∨ wd = y0s ∨ wd = y0r ∨ wd = wReg ∨ wd = k0t ∨ wd = r0o ∨ wd = o0q := by simpa [keyB, or_assoc] using hk
  exact h2)
 have HY := h_ hY
 clear hY
 have HTL := h_ (show (b0j t 0 []).1.length ≤ 1048577 by have := g1q _ t 0 [] rfl; simp at this; omega)
 have HTS := h_ (c1f t at_ (b0j t 0 []).1 (by omega))
 have hlen : (tkOf t at_ (b0j t 0 []).1).length = (b0j t 0 []).1.length := by simp [tkOf]
 have HW := h_ hw
 have HTC := h_ hc
 clear hw h4 hq hk hc
 have HW1 := h_ (show Below w.heap.size w ((w.alloc (.cells #[.string t, .int .i64 ((at_ : Nat) : Int)] 114)).alloc (.cells #[.int .i64 0, .int .i64 0] 41)) from bl_ (bl_ (Below.refl _ _) _) _)
 have HF1 := h_ (m0q f w.heap.size)
 have HS1 := h_ ((hS.relab (f0w f w.heap.size)).below HW1.out)
 have HC1 := h_ (((Acc.refl w f).relab (f0w f w.heap.size)).below HW1.out)
 have HR1 := h_ (show Blk ((w.alloc (.cells #[.string t, .int .i64 ((at_ : Nat) : Int)] 114)).alloc (.cells #[.int .i64 0, .int .i64 0] 41)) 114 w.heap.size [.string t, .int .i64 ((at_ : Nat) : Int)] from (Blk.new w _ _).alloc _)
 have HP1 := h_ (show Blk ((w.alloc (.cells #[.string t, .int .i64 ((at_ : Nat) : Int)] 114)).alloc (.cells #[.int .i64 0, .int .i64 0] 41)) 41 (w.heap.size + 1) [.int .i64 0, .int .i64 0] from by simpa using Blk.new (w.alloc (.cells #[.string t, .int .i64 ((at_ : Nat) : Int)] 114)) 41 [.int .i64 0, .int .i64 0])
 have hz1 : w.heap.size + 1 < ((w.alloc (.cells #[.string t, .int .i64 ((at_ : Nat) : Int)] 114)).alloc (.cells #[.int .i64 0, .int .i64 0] 41)).heap.size := by simp
 have HFI := h_ (fun w1 => j0a t ((at_ : Nat) : Int) w1 (by omega))
 clear hS HW1
 go_enter Tryz.func57, Tryz.ntmps57
 go_wp2_with fail
 generalize (w.alloc (.cells #[.string t, .int .i64 ((at_ : Nat) : Int)] 114)).alloc (.cells #[.int .i64 0, .int .i64 0] 41) = w1 at *
 generalize labN f w.heap.size = f1 at *
 have HHle := h_ (show w.heap.size ≤ w.heap.size + 1 by omega)
 have HH : w.heap.size < w.heap.size + 1 := by omega
 generalize w.heap.size + 1 = h1 at *
 obtain ⟨h0, hh0⟩ : ∃ h0, h0 = w.heap.size := ⟨_, rfl⟩
 rw [← hh0] at HH HR1 ⊢
 clear hh0
 refine (HFI.out _).mono ?_
 rintro e w2 ⟨rfl, hb⟩
 rw [HW.out]
 have hz2 := hb.size
 have HS2 := h_ (HS1.out.below hb)
 have HC2 := h_ (HC1.out.below hb)
 have HR2 := h_ (HR1.out.below hb)
 have HP2 := h_ (HP1.out.below hb)
 clear hb HS1 HC1 HR1 HP1
 have c16 := HS2.out.after
 have hgl := HS2.out.lt
 have r0 := HR2.out.cell 0
 have r1 := HR2.out.cell 1
 have r4 := HR2.out.lt
 simp only [gz_, gs_] at r0 r1
 go_wp2_with fail
 refine (HK.out _).mono ?_
 rintro e w' ⟨rfl, rfl⟩
 go_wp2_with fail
 refine (q0i t at_ _ (by omega) (by omega)).mono ?_
 rintro e w3 ⟨v3, rfl, ho, hb⟩
 rw [HTC.out]
 have htk : g0r at_ (b0j t 0 []) = 0 := by unfold g0r; rw [if_pos HTC.out]
 rw [htk]
 obtain ⟨tp, tc, rfl, hr, hp⟩ := t0p ho
 rw [← y0w] at hr
 have hz3 := hb.size
 have hz2h : h1 < w2.heap.size := HP2.out.lt
 have hgw2 : g < w2.heap.size := HS2.out.lt
 have HRD := h_ hr
 have HPD := h_ hp
 have HOW := h_ (l1p ho)
 have HS3 := h_ (HS2.out.below hb)
 have HC3 := h_ (HC2.out.below hb)
 have HR3 := h_ (HR2.out.below hb)
 have HP3 := h_ (HP2.out.below hb)
 clear hb ho hr hp htk HS2 HC2 HR2 HP2
 have HBA := h_ (bl_ (Below.refl w3.heap.size w3) (.cells #[.int .i64 0, .int .i64 0] 41))
 have HS4 := h_ (HS3.out.below HBA.out)
 have HC4 := h_ (HC3.out.below HBA.out)
 have HP4 := h_ (HP3.out.below HBA.out)
 have HR4 := h_ (HR3.out.below HBA.out)
 have HRD4 := h_ (HRD.out.below HBA.out)
 have m0 : (w3.alloc (.cells #[.int .i64 0, .int .i64 0] 41)).cell? ⟨w3.heap.size, 0, none⟩ = some (.int .i64 0) := (Blk.new w3 _ _).cell 0
 have mlt : w3.heap.size < (w3.alloc (.cells #[.int .i64 0, .int .i64 0] 41)).heap.size := by simp
 have HPD4 := h_ (fun a (ha : tp = some a) => show a.block < (w3.alloc (.cells #[.int .i64 0, .int .i64 0] 41)).heap.size by have := HPD.out a ha; omega)
 clear HS3 HC3 HP3 HR3 HRD HBA r0 r1 r4 c16 HPD
 go_wp2_with fail
 generalize tkOf t at_ (b0j t 0 []).1 = tk at *
 generalize (b0j t 0 []).1.length = tn at *
 have hw34 : w3.heap.size < (w3.alloc (.cells #[.int .i64 0, .int .i64 0] 41)).heap.size := mlt
 generalize (w3.alloc (.cells #[.int .i64 0, .int .i64 0] 41)) = w4 at *
 refine (i1h _ HRD4.out hlen HPD4.out HTL.out HTS.out).mono ?_
 rintro e w5 ⟨rfl, hrd, hb⟩
 have HS5 := h_ ((HS4.out.relab (i0i f1 w4.heap.size (lab 14 0))).below hb)
 have HC5 := h_ ((HC4.out.relab (i0i f1 w4.heap.size (lab 14 0))).below hb)
 have HP5 := h_ (HP4.out.below hb)
 have HR5 := h_ (HR4.out.below hb)
 have hz4 : h1 < w4.heap.size := by omega
 have hsl := HHle.out
 have HRL5 := h_ (show RdrL w5 (m0s f1 w4.heap.size (lab 14 0)) w4.heap.size tn tp tc tk ⟨0, 0, 0⟩ from ⟨hrd, m0r _ _ _, fun a ha => ⟨by rw [i0i _ _ _ _ (HPD4.out a ha)]; exact HF1.out _ (by have := HOW.out a ha; omega), by have := HPD4.out a ha; have := hb.size; omega⟩⟩)
 have HF5 := h_ (show m0s f1 w4.heap.size (lab 14 0) h1 = 0 by rw [i0i _ _ _ _ hz4]; exact HF1.out _ HHle.out)
 clear hb hrd HS4 HC4 HP4 HR4 HRD4 HPD4 HOW hsl m0 mlt
 generalize m0s f1 w4.heap.size (lab 14 0) = f5 at *
 generalize w4.heap.size = r at *
 go_wp2_with fail
 refine (g0q _ HRL5.out.1).mono ?_
 rintro e w6 ⟨rfl, hr, hg⟩
 have HS6 := h_ (HS5.out.rd hg HRL5.out.2.1)
 have HC6 := h_ (HC5.out.rd hg HRL5.out.2.1)
 have HRL6 := h_ (HRL5.out.step hr hg)
 have HP6 := h_ (HP5.out.kept hg (by intro e; injection e; omega))
 have HR6 := h_ (HR5.out.kept hg (by intro e; injection e; omega))
 have r0 := HR6.out.cell 0
 have r1 := HR6.out.cell 1
 have r4 := HR6.out.lt
 simp only [gz_, gs_] at r0 r1
 clear hr hg HS5 HC5 HP5 HR5 HRL5
 generalize a0v tk ⟨0, 0, 0⟩ = s0 at *
 clear ha0 hwt hbb
 have hKW := HKW.out
 clear HKW HW
 rcases hKW with rfl | rfl | rfl | rfl | rfl | rfl | rfl | rfl
 go_wp2_with fail
 refine (t0e (k' := n + 3) (by omega) (by omega) (HY.out.symm : _ = Y) (g1t HS6.out HRL6.out)).mono ?_
 rotate_left
 go_wp2_with fail
 refine (t0e (k' := n + 3) (by omega) (by omega) (HY.out.symm : _ = Y) (c1i HS6.out HRL6.out ((at_ : Nat) : Int) hn)).mono ?_
 rotate_left
 go_wp2_with fail
 refine (t0e (k' := n + 3) (by omega) (by omega) (HY.out.symm : _ = Y) (k1p HS6.out HRL6.out ((at_ : Nat) : Int) hn)).mono ?_
 rotate_left
 go_wp2_with fail
 refine (t0e (k' := n + 3) (by omega) (by omega) (HY.out.symm : _ = Y) (k1i HS6.out HRL6.out ((at_ : Nat) : Int) hn)).mono ?_
 rotate_left
 go_wp2_with fail
 refine (t0e (k' := n + 3) (by omega) (by omega) (HY.out.symm : _ = Y) (m1r HS6.out HRL6.out hn)).mono ?_
 rotate_left
 go_wp2_with fail
 refine (t0e (k' := n + 3) (by omega) (by omega) (HY.out.symm : _ = Y) (w0e HS6.out HRL6.out ((at_ : Nat) : Int))).mono ?_
 rotate_left
 go_wp2_with fail
 refine (t0e (k' := n + 3) (by omega) (by omega) (HY.out.symm : _ = Y) (u0k HS6.out HRL6.out false ((at_ : Nat) : Int))).mono ?_
 rotate_left
 go_wp2_with fail
 refine (t0e (k' := n + 3) (by omega) (by omega) (HY.out.symm : _ = Y) (u0k HS6.out HRL6.out true ((at_ : Nat) : Int))).mono ?_
 rotate_left
 all_goals (
  rintro e w7 ⟨rfl, f7, v7, hS7, hR7, hag, hG7⟩
  have HS7 := h_ (hS7.mono (show n + 3 ≤ n + 3 by omega) (by omega))
  have HC7 := h_ (HC6.out.trans ⟨hag, hG7⟩)
  have HP7 := h_ (HP6.out.gl hG7 (by rw [HF5.out]; exact fun h => h rfl))
  have HF7 := h_ (show f7 h1 = 0 by rw [hag _ HP6.out.lt]; exact HF5.out)
  have HRL7 := h_ hR7
  clear hS7 hR7 hag hG7 HS6 HC6 HP6 HR6 HRL6 HF5 r0 r1 r4
  go_wp2_with fail
  refine (f1q _ HRL7.out.1).mono ?_
  rintro e w8 ⟨rfl, hr, hg⟩
  have HS8 := h_ (HS7.out.rd hg HRL7.out.2.1)
  have HC8 := h_ (HC7.out.rd hg HRL7.out.2.1)
  have HRL8 := h_ (HRL7.out.step hr hg)
  have HP8 := h_ (HP7.out.kept hg (by intro e; injection e; omega))
  clear hr hg HS7 HC7 HP7 HRL7
  go_wp2_with fail
  refine (x0l _ HRL8.out.1).mono ?_
  rintro e w9 ⟨rfl, hb⟩
  have HS9 := h_ (HS8.out.below hb)
  have HC9 := h_ (HC8.out.below hb)
  have HP9 := h_ (HP8.out.below hb)
  clear hb HS8 HC8 HP8 HRL8
  have HQ := h_ ((HP9.out.set 0 (.int .i64 ((endR tk Y.2).code))).set 1 (.int .i64 ((endR tk Y.2).at_)))
  have HSq := h_ ((HS9.out.set0 HF7.out 0 (.int .i64 ((endR tk Y.2).code))).set0 HF7.out 1 (.int .i64 ((endR tk Y.2).at_)))
  have HCq := h_ ((HC9.out.new HHle.out 0 (.int .i64 ((endR tk Y.2).code))).new HHle.out 1 (.int .i64 ((endR tk Y.2).at_)))
  have p0 := HP9.out.cell 0
  have p1 := HP9.out.cell 1
  have p2 := HP9.out.free 0
  have p3 := HP9.out.free 1
  have p4 := HP9.out.lt
  simp only [gz_, gs_] at p0 p1
  go_wp2_with fail
  exact bodyPost_ret (results_cell_row rfl _ _ h1 41 #[.int .i64 ((endR tk Y.2).code), .int .i64 ((endR tk Y.2).at_)] (0, 0) _ rfl HQ.out Tryz.underlying41 rfl (by kernel_rfl)) rfl (by rw [HX.out]; exact g0x.of HSq.out HCq.out))
theorem m1n {w : World} {f : Nat → Nat} {B g n : Nat} {x : SrcA} {v : SrcV} (hS : ST w f B g n x v) (t : ByteArray) (at_ : Nat) (hn : n < 19000) (ht : t.size ≤ 16384) (hat : at_ ≤ 16384) (hp : x.pI.length = x.cores.length) :
  Calls Tryz.prog 57 #[.pointer (some ⟨g, 0, none⟩), .agg #[.string t, .int .i64 ((at_ : Nat) : Int)]] w (g0x w f B g (n + 3) (rowA x t at_)) := by
 obtain ⟨wd, hw⟩ : ∃ wd, t.extract 0 (c0t t 0) = wd := ⟨_, rfl⟩
 by_cases h4 : x.after = 4
 ·exact h1g hS t at_ hn ht hat hw h4
 by_cases hq : decide (x.after = 0) = decide (wd = j0i)
 ·by_cases hk : keyB wd = true
  ·by_cases he : (b0j t 0 []).2.1 = 0
   ·exact m1j hS t at_ hn ht hat hw h4 hq hk he
   ·exact m1m hS t at_ hn ht hat hw h4 hq hk he
  ·have h0 : ¬ x.after = 0 := by
    intro h0
    rw [decide_eq_true h0] at hq
    have e := of_decide_eq_true hq.symm
    subst e; exact hk (by decide)
   exact m1k hS t at_ hn ht hat hw h4 h0 (by simpa using hk) hp
 ·by_cases h0 : x.after = 0
  ·exact c1y hS t at_ hn ht hat hw h0 (fun e => hq (by rw [decide_eq_true h0, decide_eq_true e]))
  ·have e : wd = j0i := by
    by_cases e : wd = j0i
    ·exact e
    ·exact absurd (by rw [decide_eq_false h0, decide_eq_false e]) hq
   subst e
   exact c1z hS t at_ hn ht hat hw h4 h0
end
end Go.Proofs.YtmnojnopejhebaaGreat
