/- proper.Read: EXACTLY. -/
import Derived.Test.YtmnojnopejhebaaGreatMgai
import Derived.Test.YtmnojnopejhebaaGreatMgam
import Derived.Test.YtmnojnopejhebaaGreatMgar
import Derived.Test.YtmnojnopejhebaaGreatMgaw
import Derived.Test.YtmnojnopejhebaaGreatMgba
import Derived.Deep.RegionHeld
namespace Go.Proofs.YtmnojnopejhebaaGreat
set_option linter.unusedVariables false
set_option linter.unusedSimpArgs false
set_option maxRecDepth 100000
set_option maxHeartbeats 25600000
section
open Go.RowKit
structure TestRd (w : World) (x : SrcA) (v : SrcV) : Prop where
 cells : ∃ p c, v.vC = .slice p x.cells.length c ∧ Rds w 2 p x.cells.length (cellL x.cells)
 cores : ∃ p c, v.vCo = .slice p x.cores.length c ∧ Rds w 5 p x.cores.length (e0f v.cvs x.cores)
 lenc : v.cvs.length = x.cores.length
 core : ∀ (i : Nat) (h : i < x.cores.length) (h' : i < v.cvs.length), (∃ p c, v.cvs[i].r = .slice p x.cores[i].regs.length c ∧ Rds w 1 p x.cores[i].regs.length (x.cores[i].regs.map u64V)) ∧ (∃ p c, v.cvs[i].c = .slice p x.cores[i].code.length c ∧ Rds w 6 p x.cores[i].code.length (insL x.cores[i].code)) ∧ (∃ p c, v.cvs[i].h = .slice p x.cores[i].hand.length c ∧ Rds w 6 p x.cores[i].hand.length (insL x.cores[i].hand))
 cond : ∃ S, CT.At w S x.cond (condC v)
 sizes : Sizes x 20000
theorem Parts.rd {w : World} {f : Nat → Nat} {B : Nat} {x : SrcA} {v : SrcV} (h : Parts w f B x v) (hs : Sizes x 20000) : TestRd w x v := by
 have own : ∀ {l : Nat} {e : TypeId} {size : Nat} {v : Value} {n : Nat} {xs : List Value}, OwnL w f B l e size v n xs → ∃ p c, v = .slice p n c ∧ Rds w size p n xs := fun h => by
  obtain ⟨p, c, h1, h2, _⟩ := Rds.of_own h.1; exact ⟨p, c, h1, h2⟩
 exact ⟨own h.cells, own h.cores, h.lenc, fun i h1 h2 => ⟨own (h.core i h1 h2).1, own (h.core i h1 h2).2.1, own (h.core i h1 h2).2.2⟩, ⟨_, h.cond⟩, hs⟩
theorem TestRd.below {w w' : World} {x : SrcA} {v : SrcV} (h : TestRd w x v) (hb : Below w.heap.size w w') : TestRd w' x v := by
 have k : ∀ {size : Nat} {v : Value} {n : Nat} {xs : List Value}, (∃ p c, v = .slice p n c ∧ Rds w size p n xs) → ∃ p c, v = .slice p n c ∧ Rds w' size p n xs := fun ⟨p, c, h1, h2⟩ => ⟨p, c, h1, h2.below hb⟩
 obtain ⟨S, hc⟩ := h.cond
 exact ⟨k h.cells, k h.cores, h.lenc, fun i h1 h2 => ⟨k (h.core i h1 h2).1, k (h.core i h1 h2).2.1, k (h.core i h1 h2).2.2⟩, ⟨S, hc.below hb⟩, h.sizes⟩
theorem TestRd.like {w : World} {x y : SrcA} {v : SrcV} (h : TestRd w y v) (h1 : x.cells = y.cells) (h2 : x.cores = y.cores) (h3 : x.cond = y.cond) (hs : Sizes x 20000) : TestRd w x v := by
 obtain ⟨a, b, c, d, e, _⟩ := h
 rw [← h1] at a; rw [← h2] at b c
 refine ⟨a, b, c, ?_, by rw [h3]; exact e, hs⟩
 rw [h2]; exact d
theorem u0i : ∀ (vl : List CoreV) (l : List CoreA) (k : Nat) (h : k < l.length) (h' : k < vl.length) (j : Nat), j < 5 → (e0f vl l)[k * 5 + j]? = (g0v vl[k] l[k])[j]?
 | a :: vl, b :: l, 0, _, _, j, hj => by
  show (g0v a b ++ e0f vl l)[0 * 5 + j]? = _
  rw [List.getElem?_append_left (by simp [g0v]; omega), Nat.zero_mul, Nat.zero_add]; rfl
 | a :: vl, b :: l, k + 1, h, h', j, hj => by
  show (g0v a b ++ e0f vl l)[(k + 1) * 5 + j]? = _
  rw [List.getElem?_append_right (by simp [g0v]; omega), show (k + 1) * 5 + j - (g0v a b).length = k * 5 + j by simp [g0v]; omega]
  exact u0i vl l k (by simpa using h) (by simpa using h') j hj
theorem TestRd.coreAt {w : World} {x : SrcA} {v : SrcV} (h : TestRd w x v) {p : Option Addr} {c : Nat} (hv : v.vCo = .slice p x.cores.length c) {k : Nat} (hk : k < x.cores.length) : ∃ (g off : Nat) (cv : CoreV), p = some ⟨g, off, none⟩ ∧ (∀ j, j < 5 → w.cell? ⟨g, off + (k * 5 + j), none⟩ = (g0v cv x.cores[k])[j]?) ∧ (∃ p c, cv.r = .slice p x.cores[k].regs.length c ∧ Rds w 1 p x.cores[k].regs.length (x.cores[k].regs.map u64V)) ∧ (∃ p c, cv.c = .slice p x.cores[k].code.length c ∧ Rds w 6 p x.cores[k].code.length (insL x.cores[k].code)) ∧ (∃ p c, cv.h = .slice p x.cores[k].hand.length c ∧ Rds w 6 p x.cores[k].hand.length (insL x.cores[k].hand)) := by
 obtain ⟨p', c', hv', hr⟩ := h.cores
 rw [hv] at hv'
 injection hv' with e1 _ _
 subst e1
 obtain ⟨g, off, hp, hc⟩ := hr.2 (by omega)
 have hk' : k < v.cvs.length := by rw [h.lenc]; exact hk
 have q := h.core k hk hk'
 exact ⟨g, off, v.cvs[k], hp, fun j hj => (hc _ (by omega)).trans (u0i _ _ k hk hk' j hj), q⟩
end
section
open Go.RowKit
def f0j (s : ByteArray) (w : World) (e : Ending) (w' : World) : Prop :=
 ∃ v', e = .returned (.tuple #[.agg (srcC (f0c s).1 v').toArray, .agg #[.int .i64 (f0c s).2.1, .int .i64 (f0c s).2.2]]) ∧ (srcC (f0c s).1 v').toArray.all (·.oneCell') = true ∧ GRd w' (gsrc (f0c s).1) v' ∧ TestRd w' (f0c s).1 v' ∧ Below w.heap.size w w'
theorem n1t : GSizes (gsrc src0) := ⟨by decide, by decide, by decide, by decide, by decide, by decide, by decide, by simp [gsrc, src0], by simp [gsrc, src0], by simp [gsrc, src0], by simp [gsrc, src0], by simp [gsrc, src0], by decide⟩
theorem f0j.of {s : ByteArray} {w w' : World} {x : SrcA} {a b : Int} {v' : SrcV} {cs : Array Value} (hX : f0c s = (x, a, b)) (hc : (srcC x v').toArray = cs) (ho : cs.all (·.oneCell') = true) (hG : GRd w' (gsrc x) v') (hT : TestRd w' x v') (hB : Below w.heap.size w w') : f0j s w (.returned (.tuple #[.agg cs, .agg #[.int .i64 a, .int .i64 b]])) w' := by
 unfold f0j; rw [hX]; exact ⟨v', by rw [hc], by rw [hc]; exact ho, hG, hT, hB⟩
theorem f0j.of0 {s : ByteArray} {w w' : World} {a b : Int} (hX : f0c s = (src0, a, b)) (hB : Below w.heap.size w w') : f0j s w (.returned (.tuple #[.agg z39, .agg #[.int .i64 a, .int .i64 b]])) w' :=
 f0j.of hX g1v (all_oneCell_toArray (v0h (p0b w' (fun _ => 0) 0))) ((p0b w' (fun _ => 0) 0).grd n1t) ((p0b w' (fun _ => 0) 0).rd ((inv0.1).mono (by decide))) hB
theorem j1h {s : ByteArray} {w w1 : World} {e : Ending} (h : f0z s w e w1) : ∃ f' v, e = .returned (.tuple #[.agg (srcC (litA s).1 v).toArray, .agg #[.int .i64 (litA s).2.1, .int .i64 (litA s).2.2]]) ∧ (srcC (litA s).1 v).toArray.all (·.oneCell') = true ∧ ((litA s).2.1 = 0 → Parts w1 f' w.heap.size (litA s).1 v ∧ Sizes (litA s).1 20000 ∧ GSizes (gsrc (litA s).1)) ∧ Below w.heap.size w w1 ∧ ∀ i, i < w.heap.size → f' i = 0 := by
 obtain ⟨f', v, rfl, hP, hs, hB, hZ⟩ := h
 exact ⟨f', v, rfl, all_oneCell_toArray (v0h hP), fun h => ⟨hP, hs, a1o h hs⟩, hB, hZ⟩
theorem Parts.below {w w' : World} {f : Nat → Nat} {B : Nat} {x : SrcA} {v : SrcV} (h : Parts w f B x v) (hb : Below w.heap.size w w') : Parts w' f B x v :=
 h.gl (L := fun _ => False) (GL.ofBelow hb) (fun _ _ => rfl) (fun _ _ _ _ h => h)
theorem Parts.set2 {w : World} {f : Nat → Nat} {B g g2 : Nat} {x : SrcA} {v : SrcV} (h : Parts w f B x v) (h0 : f g = 0) (h1 : f g2 = 0) (cs cs2 : Array Value) : Parts ((w.setRow g cs).setRow g2 cs2) f B x v :=
 h.gl (L := fun n => n = 0) (((GL.refl f _ _).setRow h0 _).setRow h1 _) (fun _ _ => rfl) (fun k i h1 h2 hn => by unfold lab at hn; omega)
theorem t0m (s : ByteArray) (w : World) (hs : s.size ≤ maxLen) :
  Calls Tryz.prog 9 #[.string s] w (f0j s w) := by
 have HPA := h_ (fun (w1 : World) => (j1g s w1 hs).mono fun e w2 h => j1h h)
 have HX1 := h_ (fun (h : ¬ (litA s).2.1 = 0) => show f0c s = (src0, (litA s).2) from by unfold f0c; rw [if_pos h])
 have HX2 := h_ (fun (h : (litA s).2.1 = 0) (h2 : ¬ (b0y (gsrc (litA s).1)).1 = 0) => show f0c s = (src0, b0y (gsrc (litA s).1)) from by unfold f0c; rw [if_neg (fun q => q h), if_pos h2])
 have HX3 := h_ (fun (h : (litA s).2.1 = 0) (h2 : (b0y (gsrc (litA s).1)).1 = 0) => show f0c s = ((litA s).1, 0, 0) from by unfold f0c; rw [if_neg (fun q => q h), if_neg (fun q => q h2)])
 have HT1 := h_ (show Blk ((w.alloc (.cells #[.string ⟨#[]⟩, .slice none 0 0, .slice none 0 0, .bool false, .int .i64 0, .int .i64 0, .int .i64 0, .int .u64 0, .int .u64 0, .slice none 0 0, .slice none 0 0, .slice none 0 0, .slice none 0 0, .slice none 0 0, .slice none 0 0, .int .i64 0] 38)).alloc (.cells #[.int .i64 0, .int .i64 0] 41)) 38 w.heap.size [.string ⟨#[]⟩, .slice none 0 0, .slice none 0 0, .bool false, .int .i64 0, .int .i64 0, .int .i64 0, .int .u64 0, .int .u64 0, .slice none 0 0, .slice none 0 0, .slice none 0 0, .slice none 0 0, .slice none 0 0, .slice none 0 0, .int .i64 0] from (Blk.new w _ _).alloc _)
 have HP1 := h_ (show Blk ((w.alloc (.cells #[.string ⟨#[]⟩, .slice none 0 0, .slice none 0 0, .bool false, .int .i64 0, .int .i64 0, .int .i64 0, .int .u64 0, .int .u64 0, .slice none 0 0, .slice none 0 0, .slice none 0 0, .slice none 0 0, .slice none 0 0, .slice none 0 0, .int .i64 0] 38)).alloc (.cells #[.int .i64 0, .int .i64 0] 41)) 41 (w.heap.size + 1) [.int .i64 0, .int .i64 0] from by simpa using Blk.new (w.alloc (.cells #[.string ⟨#[]⟩, .slice none 0 0, .slice none 0 0, .bool false, .int .i64 0, .int .i64 0, .int .i64 0, .int .u64 0, .int .u64 0, .slice none 0 0, .slice none 0 0, .slice none 0 0, .slice none 0 0, .slice none 0 0, .slice none 0 0, .int .i64 0] 38)) 41 [.int .i64 0, .int .i64 0])
 have HB1 := h_ (show Below w.heap.size w ((w.alloc (.cells #[.string ⟨#[]⟩, .slice none 0 0, .slice none 0 0, .bool false, .int .i64 0, .int .i64 0, .int .i64 0, .int .u64 0, .int .u64 0, .slice none 0 0, .slice none 0 0, .slice none 0 0, .slice none 0 0, .slice none 0 0, .slice none 0 0, .int .i64 0] 38)).alloc (.cells #[.int .i64 0, .int .i64 0] 41)) from bl_ (bl_ (Below.refl _ _) _) _)
 have hz1 : w.heap.size + 1 < ((w.alloc (.cells #[.string ⟨#[]⟩, .slice none 0 0, .slice none 0 0, .bool false, .int .i64 0, .int .i64 0, .int .i64 0, .int .u64 0, .int .u64 0, .slice none 0 0, .slice none 0 0, .slice none 0 0, .slice none 0 0, .slice none 0 0, .slice none 0 0, .int .i64 0] 38)).alloc (.cells #[.int .i64 0, .int .i64 0] 41)).heap.size := by simp
 go_enter Tryz.func9, Tryz.ntmps9
 go_wp2_with fail
 generalize (w.alloc (.cells #[.string ⟨#[]⟩, .slice none 0 0, .slice none 0 0, .bool false, .int .i64 0, .int .i64 0, .int .i64 0, .int .u64 0, .int .u64 0, .slice none 0 0, .slice none 0 0, .slice none 0 0, .slice none 0 0, .slice none 0 0, .slice none 0 0, .int .i64 0] 38)).alloc (.cells #[.int .i64 0, .int .i64 0] 41) = w1 at *
 refine (HPA.out _).mono ?_
 rintro e w2 ⟨f', v, rfl, hone, hG, hb, hZ⟩
 have HZ := h_ hZ
 clear hZ
 generalize litA s = y at *
 obtain ⟨x, ca, cb⟩ := y
 dsimp only at HX1 HX2 HX3 hone hG
 have HON := h_ hone
 have hz2 := hb.size
 have HT2 := h_ (HT1.out.below hb)
 have HP2 := h_ (HP1.out.below hb)
 have HB2 := h_ (bt_ HB1.out (hb.mono (by omega)))
 clear hb HT1 HP1 HB1 HPA hone
 obtain ⟨S1, S2, S3⟩ := v0g w2 (.cells #[.string ⟨#[]⟩, .slice none 0 0, .slice none 0 0, .bool false, .int .i64 0, .int .i64 0, .int .i64 0, .int .u64 0, .int .u64 0, .slice none 0 0, .slice none 0 0, .slice none 0 0, .slice none 0 0, .slice none 0 0, .slice none 0 0, .int .i64 0] 38) (.cells #[.int .i64 0, .int .i64 0] 41) 38 41 _ _ (srcC x v).toArray #[.int .i64 ca, .int .i64 cb] rfl rfl
 have p0 := S2.cell 0
 have p1 := S2.cell 1
 have l1 := S1.lt
 have l2 := S2.lt
 have hi39 := h_ (show (Tryz.prog.info? 38).map (·.size) = some (srcC x v).toArray.size by kernel_rfl)
 have hsz := h_ (show (srcC x v).toArray.size = 16 from rfl)
 simp only [gz_, gs_] at p0 p1
 have HT3 := h_ (HT2.out.below S3)
 have HP3 := h_ (HP2.out.below S3)
 have HB3 := h_ (bt_ HB2.out (S3.mono (by omega)))
 by_cases hc : ca = 0
 ·subst hc
  have HG := h_ ((hG rfl).1.below S3)
  have HSI := h_ (hG rfl).2
  obtain ⟨d0, d1, d2, d3, d4, d5, d6, d7, d8, d9, d10, d11, d12, d13, d14, d15⟩ := g1w S1
  have HS1 := h_ S1
  clear hG S1 S2 S3 HX1 HT2 HP2 HB2
  have HY2 := h_ (HX2.out (by trivial))
  have HY3 := h_ (HX3.out (by trivial))
  clear HX2 HX3
  go_wp2_with (first | (refine wpList_store_row rfl 38 (.tmp 4) (.tmp 10) rfl w2.heap.size (srcC x v).toArray rfl rfl 38 _ (heap_alloc2_old w2 _ _) hi39.out (by rw [hsz.out]; rfl) HON.out ?_) | (refine wpList_store_row rfl 41 (.tmp 5) (.tmp 11) rfl (w2.heap.size + 1) #[.int .i64 (0), .int .i64 (cb)] rfl rfl 41 _ ((setRow_other _ _ _ _ (by omega)).trans (heap_alloc2_new w2 _ _)) (by kernel_rfl) rfl (by kernel_rfl) ?_; generalize ((((w2.alloc (.cells #[.string ⟨#[]⟩, .slice none 0 0, .slice none 0 0, .bool false, .int .i64 0, .int .i64 0, .int .i64 0, .int .u64 0, .int .u64 0, .slice none 0 0, .slice none 0 0, .slice none 0 0, .slice none 0 0, .slice none 0 0, .slice none 0 0, .int .i64 0] 38)).alloc (.cells #[.int .i64 0, .int .i64 0] 41)).setRow w2.heap.size (srcC x v).toArray).setRow (w2.heap.size + 1) #[.int .i64 (0), .int .i64 (cb)]) = w3 at *))
  have HC := h_ (q0n w3 (HG.out.grd HSI.out.2))
  rw [a1n] at HC
  have HC := h_ (show Calls Tryz.prog 15 #[.agg [.string x.name, v.vC, v.vCo, .bool x.fa, v.k0, v.k1, v.k2, v.k3, v.k4, v.k5, v.vT, v.vPT, v.vPC, v.vPCo, v.vPI, .int .i64 x.pCond].toArray] w3 (fun e w' => e = .returned (.agg #[.int .i64 (b0y (gsrc x)).1, .int .i64 (b0y (gsrc x)).2]) ∧ Below w3.heap.size w3 w') from HC.out)
  dsimp only [List.toArray] at HC
  refine HC.out.mono ?_
  rintro e w4 ⟨rfl, hb⟩
  have hz4 := hb.size
  have hz3 : w2.heap.size + 1 < w3.heap.size := l2
  have HT4 := h_ (HT3.out.below hb)
  have HP4 := h_ (HP3.out.below hb)
  have HB4 := h_ (bt_ HB3.out (hb.mono (by omega)))
  have HG4 := h_ (HG.out.below hb)
  have HS4 := h_ (HS1.out.below hb)
  clear hb d0 d1 d2 d3 d4 d5 d6 d7 d8 d9 d10 d11 d12 d13 d14 d15 HT3 HP3 HB3 HG HC p0 p1 l1 l2
  generalize b0y (gsrc x) = A at *
  obtain ⟨da, db⟩ := A
  dsimp only at HY2 HY3 ⊢
  by_cases hd : da = 0
  ·subst hd
   have HX := h_ (HY3.out (by trivial))
   clear HY2 HY3
   have q0 := (Blk.new w4 41 [.int .i64 0, .int .i64 db]).cell 0
   have q4 := (Blk.new w4 41 [.int .i64 0, .int .i64 db]).lt
   have HBa := h_ (show Below w4.heap.size w4 (w4.alloc (.cells #[.int .i64 0, .int .i64 db] 41)) from bl_ (Below.refl _ _) _)
   have HT5 := h_ (HT4.out.below HBa.out)
   have HP5 := h_ (HP4.out.below HBa.out)
   have HB5 := h_ (bt_ HB4.out (HBa.out.mono (by omega)))
   have HG5 := h_ (HG4.out.below HBa.out)
   obtain ⟨e0, e1, e2, e3, e4, e5, e6, e7, e8, e9, e10, e11, e12, e13, e14, e15⟩ := g1w (HS4.out.alloc (.cells #[.int .i64 0, .int .i64 db] 41))
   simp only [gz_] at q0
   dsimp only [List.toArray] at q0 q4
   have l1 : w2.heap.size < (w4.alloc (.cells #[.int .i64 0, .int .i64 db] 41)).heap.size := by have := HBa.out.size; omega
   go_wp2_with (first | (refine wpList_store_row rfl 38 (.tmp 2) (.tmp 24) rfl w.heap.size (srcC x v).toArray rfl rfl 38 _ HT5.out hi39.out (by rw [hsz.out]; rfl) HON.out ?_) | (refine wpList_store_row rfl 41 (.tmp 3) (.tmp 25) rfl (w.heap.size + 1) #[.int .i64 0, .int .i64 0] rfl rfl 41 _ ((setRow_other _ _ _ _ (by omega)).trans HP5.out) (by kernel_rfl) rfl (by kernel_rfl) ?_))
   refine bodyPost_ret (g0d rfl _ _ (w.heap.size) (w.heap.size + 1) 38 41 (srcC x v).toArray #[.int .i64 (0), .int .i64 (0)] (0, 0) (0, 0) _ _ rfl ?q1 rfl ?q2 Tryz.underlying38 rfl (by kernel_rfl) Tryz.underlying41 rfl (by kernel_rfl)) rfl ?_
   case q1 => exact (setRow_other _ _ _ _ (by omega)).trans (setRow_heap _ _ _ _ _ _ HT5.out)
   case q2 => exact setRow_heap _ _ _ _ _ _ ((setRow_other _ _ _ _ (by omega)).trans HP5.out)
   have HP9 := HG5.out.set2 (HZ.out w.heap.size (by omega)) (HZ.out (w.heap.size + 1) (by omega)) (srcC x v).toArray #[.int .i64 0, .int .i64 0]
   exact f0j.of HX.out rfl HON.out (HP9.grd HSI.out.2) (HP9.rd HSI.out.1) (b0s (b0s HB5.out (Nat.le_refl _) _) (by omega) _)
  ·have ndb : (da == 0) = false := beq_eq_false_iff_ne.2 hd
   have HX := h_ (HY2.out hd)
   clear hd HY2 HY3 HG4 HS4
   have m0 : (w4.alloc (.cells #[.int .i64 da, .int .i64 db] 41)).cell? ⟨w4.heap.size, 0, none⟩ = some (.int .i64 da) := (Blk.new w4 41 [.int .i64 da, .int .i64 db]).cell 0
   have m1 : (w4.alloc (.cells #[.int .i64 da, .int .i64 db] 41)).cell? ⟨w4.heap.size, 1, none⟩ = some (.int .i64 db) := (Blk.new w4 41 [.int .i64 da, .int .i64 db]).cell 1
   have l4 : w4.heap.size < (w4.alloc (.cells #[.int .i64 da, .int .i64 db] 41)).heap.size := (Blk.new w4 41 [.int .i64 da, .int .i64 db]).lt
   have HT := h_ (show Blk (w4.alloc (.cells #[.int .i64 da, .int .i64 db] 41)).drew _ _ _ from HT4.out.alloc _)
   have HP := h_ (show Blk (w4.alloc (.cells #[.int .i64 da, .int .i64 db] 41)).drew _ _ _ from HP4.out.alloc _)
   have HBq := h_ (show Below w.heap.size w (w4.alloc (.cells #[.int .i64 da, .int .i64 db] 41)).drew from (bl_ HB4.out _).drew)
   have hn0 : w4.heap.size ≠ w.heap.size := by omega
   have hn1 : w4.heap.size ≠ w.heap.size + 1 := by omega
   have hn2 : w.heap.size + 1 ≠ w.heap.size := by omega
   go_wp2_with fail
   clear l4
   generalize w4.heap.size = h2 at *
   generalize w4.alloc (.cells #[.int .i64 da, .int .i64 db] 41) = w5 at *
   refine wp_region_held_drew (S := (fun w' => w'.cell? ⟨h2, 0, none⟩ = some (.int .i64 (da)) ∧ w'.cell? ⟨h2, 1, none⟩ = some (.int .i64 (db)))) (by kernel_rfl) (by (try dsimp only); exact ⟨m0, m1⟩) (fun hHeld => ?_)
   refine tk1 0 22 rfl ?_
   simp only [Act.put, tka, tk0, tkS]
   refine tk1 1 23 rfl ?_
   simp only [Act.put, tka, tk0, tkS]
   refine wpAnyH_ready (rs := [2]) (by kernel_rfl) (by simp) ?_
   refine AllReadyH.cons (o := ⟨none, _, _, _, _, _⟩) rfl (fun K hK => ?_) AllReadyH.nil
   rw [if_pos (by rfl)]
   refine wp_store_row 38 (.tmp 2) (.tmp 22) rfl w.heap.size z39 rfl rfl 38 _ HT.out (by kernel_rfl) rfl (by kernel_rfl) ?_
   refine hK.out _ _ (by (try dsimp only); exact ⟨by rw [cell_setRow_other _ _ _ _ hn0]; exact m0, by rw [cell_setRow_other _ _ _ _ hn0]; exact m1⟩) ?_
   clear hK K hHeld
   intro hHeld
   try simp only [Act.put, tka, tk0, tkS]
   refine wpAnyH_ready (rs := [3]) (by kernel_rfl) (by simp) ?_
   refine AllReadyH.cons (o := ⟨none, _, _, _, _, _⟩) rfl (fun K hK => ?_) AllReadyH.nil
   rw [if_pos (by rfl)]
   refine wp_store_row 41 (.tmp 3) (.tmp 23) rfl (w.heap.size + 1) #[.int .i64 (da), .int .i64 (db)] rfl rfl 41 _ ((setRow_other _ _ _ _ hn2).trans HP.out) (by kernel_rfl) rfl (by kernel_rfl) ?_
   refine hK.out _ _ (by (try dsimp only); exact ⟨by rw [cell_setRow_other _ _ _ _ hn1, cell_setRow_other _ _ _ _ hn0]; exact m0, by rw [cell_setRow_other _ _ _ _ hn1, cell_setRow_other _ _ _ _ hn0]; exact m1⟩) ?_
   clear hK K hHeld
   intro hHeld
   try simp only [Act.put, tka, tk0, tkS]
   refine wpAnyH_done (by kernel_rfl) ?_ _
   go_wp2
   refine bodyPost_ret (g0d rfl _ _ (w.heap.size) (w.heap.size + 1) 38 41 z39 #[.int .i64 (da), .int .i64 (db)] (0, 0) (0, 0) _ _ rfl ?q1 rfl ?q2 Tryz.underlying38 rfl (by kernel_rfl) Tryz.underlying41 rfl (by kernel_rfl)) rfl ?_
   case q1 => exact (setRow_other _ _ _ _ (by omega)).trans (setRow_heap _ _ _ _ _ _ HT.out)
   case q2 => exact setRow_heap _ _ _ _ _ _ ((setRow_other _ _ _ _ (by omega)).trans HP.out)
   exact f0j.of0 HX.out (b0s (b0s HBq.out (Nat.le_refl _) _) (by omega) _)
 ·have hcb : (ca != 0) = true := bne_iff_ne.2 hc
  have HX := h_ (HX1.out hc)
  clear hc hG S1 S2 S3 HX1 HX2 HX3 HT2 HP2 HB2
  go_wp2_with (first | (refine wpList_store_row rfl 38 (.tmp 4) (.tmp 10) rfl w2.heap.size (srcC x v).toArray rfl rfl 38 _ (heap_alloc2_old w2 _ _) hi39.out (by rw [hsz.out]; rfl) HON.out ?_) | (refine wpList_store_row rfl 41 (.tmp 5) (.tmp 11) rfl (w2.heap.size + 1) #[.int .i64 (ca), .int .i64 (cb)] rfl rfl 41 _ ((setRow_other _ _ _ _ (by omega)).trans (heap_alloc2_new w2 _ _)) (by kernel_rfl) rfl (by kernel_rfl) ?_; generalize ((((w2.alloc (.cells #[.string ⟨#[]⟩, .slice none 0 0, .slice none 0 0, .bool false, .int .i64 0, .int .i64 0, .int .i64 0, .int .u64 0, .int .u64 0, .slice none 0 0, .slice none 0 0, .slice none 0 0, .slice none 0 0, .slice none 0 0, .slice none 0 0, .int .i64 0] 38)).alloc (.cells #[.int .i64 0, .int .i64 0] 41)).setRow w2.heap.size (srcC x v).toArray).setRow (w2.heap.size + 1) #[.int .i64 (ca), .int .i64 (cb)]) = w3 at *))
  have hn0 : w2.heap.size + 1 ≠ w.heap.size := by omega
  have hn1 : w2.heap.size + 1 ≠ w.heap.size + 1 := by omega
  have hn2 : w.heap.size + 1 ≠ w.heap.size := by omega
  have HT := h_ (show Blk w3.drew _ _ _ from HT3.out)
  have HP := h_ (show Blk w3.drew _ _ _ from HP3.out)
  have HBq := h_ (show Below w.heap.size w w3.drew from HB3.out.drew)
  have m0 := p0
  have m1 := p1
  clear p0 p1
  generalize w2.heap.size + 1 = h2 at *
  refine wp_region_held_drew (S := (fun w' => w'.cell? ⟨h2, 0, none⟩ = some (.int .i64 (ca)) ∧ w'.cell? ⟨h2, 1, none⟩ = some (.int .i64 (cb)))) (by kernel_rfl) (by (try dsimp only); exact ⟨m0, m1⟩) (fun hHeld => ?_)
  refine tk1 0 15 rfl ?_
  simp only [Act.put, tka, tk0, tkS]
  refine tk1 1 16 rfl ?_
  simp only [Act.put, tka, tk0, tkS]
  refine wpAnyH_ready (rs := [2]) (by kernel_rfl) (by simp) ?_
  refine AllReadyH.cons (o := ⟨none, _, _, _, _, _⟩) rfl (fun K hK => ?_) AllReadyH.nil
  rw [if_pos (by rfl)]
  refine wp_store_row 38 (.tmp 2) (.tmp 15) rfl w.heap.size z39 rfl rfl 38 _ HT.out (by kernel_rfl) rfl (by kernel_rfl) ?_
  refine hK.out _ _ (by (try dsimp only); exact ⟨by rw [cell_setRow_other _ _ _ _ hn0]; exact m0, by rw [cell_setRow_other _ _ _ _ hn0]; exact m1⟩) ?_
  clear hK K hHeld
  intro hHeld
  try simp only [Act.put, tka, tk0, tkS]
  refine wpAnyH_ready (rs := [3]) (by kernel_rfl) (by simp) ?_
  refine AllReadyH.cons (o := ⟨none, _, _, _, _, _⟩) rfl (fun K hK => ?_) AllReadyH.nil
  rw [if_pos (by rfl)]
  refine wp_store_row 41 (.tmp 3) (.tmp 16) rfl (w.heap.size + 1) #[.int .i64 (ca), .int .i64 (cb)] rfl rfl 41 _ ((setRow_other _ _ _ _ hn2).trans HP.out) (by kernel_rfl) rfl (by kernel_rfl) ?_
  refine hK.out _ _ (by (try dsimp only); exact ⟨by rw [cell_setRow_other _ _ _ _ hn1, cell_setRow_other _ _ _ _ hn0]; exact m0, by rw [cell_setRow_other _ _ _ _ hn1, cell_setRow_other _ _ _ _ hn0]; exact m1⟩) ?_
  clear hK K hHeld
  intro hHeld
  try simp only [Act.put, tka, tk0, tkS]
  refine wpAnyH_done (by kernel_rfl) ?_ _
  go_wp2
  refine bodyPost_ret (g0d rfl _ _ (w.heap.size) (w.heap.size + 1) 38 41 z39 #[.int .i64 (ca), .int .i64 (cb)] (0, 0) (0, 0) _ _ rfl ?q1 rfl ?q2 Tryz.underlying38 rfl (by kernel_rfl) Tryz.underlying41 rfl (by kernel_rfl)) rfl ?_
  case q1 => exact (setRow_other _ _ _ _ (by omega)).trans (setRow_heap _ _ _ _ _ _ HT.out)
  case q2 => exact setRow_heap _ _ _ _ _ _ ((setRow_other _ _ _ _ (by omega)).trans HP.out)
  exact f0j.of0 HX.out (b0s (b0s HBq.out (Nat.le_refl _) _) (by omega) _)
end
end Go.Proofs.YtmnojnopejhebaaGreat
