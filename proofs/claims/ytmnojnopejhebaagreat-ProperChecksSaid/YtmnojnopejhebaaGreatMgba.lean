/- granuleref11.Same: conditions alike. -/
import Derived.Test.YtmnojnopejhebaaGreatMgad
import Derived.Test.YtmnojnopejhebaaGreatMgag
import Derived.Test.YtmnojnopejhebaaGreatMgah
import Derived.Test.YtmnojnopejhebaaGreatMgai
import Derived.Test.YtmnojnopejhebaaGreatMgau
import Derived.Test.YtmnojnopejhebaaGreatMgaz
import Derived.Deep.MidRow
import Derived.Deep.RegionHeld
namespace Go.Proofs.YtmnojnopejhebaaGreat
set_option linter.unusedVariables false
set_option linter.unusedSimpArgs false
set_option maxRecDepth 100000
set_option maxHeartbeats 25600000
section
open Go.RowKit
def z39 : Array Value := #[.string ⟨#[]⟩, .slice none 0 0, .slice none 0 0, .bool false, .int .i64 0, .int .i64 0, .int .i64 0, .int .u64 0, .int .u64 0, .slice none 0 0, .slice none 0 0, .slice none 0 0, .slice none 0 0, .slice none 0 0, .slice none 0 0, .int .i64 0]
def c1n : SrcV := ⟨.slice none 0 0, .slice none 0 0, .int .i64 0, .int .i64 0, .int .i64 0, .int .u64 0, .int .u64 0, .slice none 0 0, .slice none 0 0, .slice none 0 0, .slice none 0 0, .slice none 0 0, .slice none 0 0, [], []⟩
theorem g1v : (srcC src0 c1n).toArray = z39 := rfl
theorem p0b (w : World) (f : Nat → Nat) (B : Nat) : Parts w f B src0 c1n :=
 ⟨OwnL.nil _ _ _ _ _ _, OwnL.nil _ _ _ _ _ _, rfl, fun i h => absurd h (by simp [src0]), by unfold CT.At; exact ⟨none, 0, rfl, by decide, by decide, by decide, by decide, by unfold CT.Row; trivial⟩, OwnL.nil _ _ _ _ _ _, OwnL.nil _ _ _ _ _ _, OwnL.nil _ _ _ _ _ _, OwnL.nil _ _ _ _ _ _, OwnL.nil _ _ _ _ _ _, rfl, fun i h => absurd h (by simp [src0])⟩
def f0z (s : ByteArray) (w : World) (e : Ending) (w' : World) : Prop :=
 ∃ f' v', e = .returned (.tuple #[.agg (srcC (litA s).1 v').toArray, .agg #[.int .i64 (litA s).2.1, .int .i64 (litA s).2.2]]) ∧ Parts w' f' w.heap.size (litA s).1 v' ∧ Sizes (litA s).1 20000 ∧ Below w.heap.size w w' ∧ ∀ i, i < w.heap.size → f' i = 0
theorem f0z.of {s : ByteArray} {w w' : World} {x : SrcA} {a b : Int} {v' : SrcV} {f' : Nat → Nat} {cs : Array Value} (hX : litA s = (x, a, b)) (hc : (srcC x v').toArray = cs) (hP : Parts w' f' w.heap.size x v') (hs : Sizes x 20000) (hB : Below w.heap.size w w') (hZ : ∀ i, i < w.heap.size → f' i = 0)   : f0z s w (.returned (.tuple #[.agg cs, .agg #[.int .i64 a, .int .i64 b]])) w' := by
 unfold f0z; rw [hX]; exact ⟨f', v', by rw [hc], hP, hs, hB, hZ⟩
theorem b0s {B : Nat} {w w' : World} (h : Below B w w') {g : Nat} (hg : B ≤ g) (cs : Array Value) : Below B w (w'.setRow g cs) :=
 ⟨h.os, h.tape, h.output, by simpa using h.size, fun i hi => (setRow_other _ _ _ _ (by omega)).trans (h.block i hi)⟩
theorem ST.of0 {w : World} (B : Nat) (hB : B ≤ w.heap.size) : ST (w.alloc (.cells #[.string ⟨#[]⟩, .slice none 0 0, .slice none 0 0, .bool false, .int .i64 0, .int .i64 0, .int .i64 0, .int .u64 0, .int .u64 0, .slice none 0 0, .slice none 0 0, .slice none 0 0, .slice none 0 0, .slice none 0 0, .slice none 0 0, .int .i64 0, .int .i64 0] 111)) (m0s (fun _ => 0) w.heap.size (lab 9 0)) B w.heap.size 0 src0 c1n :=
 ⟨Blk.new w _ _, m0r _ _ _, hB, p0b _ _ _, inv0.1, by decide⟩
theorem Acc.blk0 {w w' : World} {f f' : Nat → Nat} {T : TypeId} {g : Nat} {cs : List Value} (h : Acc w f w' f') (hb : Blk w T g cs) (h0 : f g = 0) : Blk w' T g cs := hb.gl h.2 (by rw [h0]; exact fun hn => hn rfl)
theorem Acc.ofBelow {w w' : World} {f f' : Nat → Nat} {B : Nat} {w0 : World} (h : Acc w f w' f') (hb : Below B w0 w) (hB : B ≤ w.heap.size) (h0 : ∀ i, i < B → f i = 0) : Below B w0 w' :=
 ⟨h.2.os.trans hb.os, h.2.tape.trans hb.tape, h.2.output.trans hb.output, Nat.le_trans hb.size h.2.size, fun i hi => (h.2.block i (by omega) (by rw [h0 i hi]; exact fun hn => hn rfl)).trans (hb.block i hi)⟩
theorem z0g (s : ByteArray) (x : SrcA) (l : List (Nat × Nat)) (k : Nat) (h : k < l.length) : g0b s x (l.drop k) = if (rowA x (s.extract l[k].1 l[k].2) l[k].1).2.1 = 0 then g0b s (rowA x (s.extract l[k].1 l[k].2) l[k].1).1 (l.drop (k + 1)) else (src0, (rowA x (s.extract l[k].1 l[k].2) l[k].1).2) := by
 rw [List.drop_eq_getElem_cons h]; rfl
theorem g0d {P : Program} {fn : Func} {p q : Tmp} {ty ty2 : TypeId} (h : fn.results = #[.cell p ty, .cell q ty2]) (tmps : Array Value) (w : World) (g g2 : Nat) (t t2 : TypeId) (cs cs2 : Array Value) (fr fr2 : Nat × Nat) (d d2 : TypeDesc)
  (hp : tmps.getD p undef = .pointer (some ⟨g, 0, none⟩)) (hg : w.heap[g]? = some (.cells cs t fr)) (hq : tmps.getD q undef = .pointer (some ⟨g2, 0, none⟩)) (hg2 : w.heap[g2]? = some (.cells cs2 t2 fr2))
  (hu : P.underlying ty = some d) (hd : (match d with | .struct _ | .array _ _ => true | _ => false) = true) (hi : (P.info? ty).map (·.size) = some cs.size)
  (hu2 : P.underlying ty2 = some d2) (hd2 : (match d2 with | .struct _ | .array _ _ => true | _ => false) = true) (hi2 : (P.info? ty2).map (·.size) = some cs2.size) :
  (results fn tmps).run P w = .ok (.tuple #[.agg cs, .agg cs2]) w := by
 simp only [results, h]
 have hp' : tmps[p]?.getD undef = .pointer (some ⟨g, 0, none⟩) := by simpa using hp
 have hq' : tmps[q]?.getD undef = .pointer (some ⟨g2, 0, none⟩) := by simpa using hq
 simp [Sem.run_bind, hp', hq', asAddr, run_loadVar_row w g t ty cs fr d hg hu hd hi, run_loadVar_row w g2 t2 ty2 cs2 fr2 d2 hg2 hu2 hd2 hi2]
theorem GL.setRow {f : Nat → Nat} {L : Nat → Prop} {a b : World} (h : GL f L a b) {g : Nat} (hg : L (f g)) (cs : Array Value) : GL f L a (b.setRow g cs) :=
 ⟨h.os, h.tape, h.output, by simpa using h.size, fun i hi hn => (setRow_other _ _ _ _ (fun e => hn (by rw [e]; exact hg))).trans (h.block i hi hn)⟩
theorem c1m {w : World} {f : Nat → Nat} {B g n : Nat} {x : SrcA} {v : SrcV} (h : ST w f B g n x v) : w.rangeAt g 0 (srcC x v) := by
 intro j u hj
 have hc := h.blk.cell j
 rw [Nat.zero_add, hc]
 have e : stC x v = srcC x v ++ [.int .i64 (x.after : Nat)] := rfl
 rw [e, List.getElem?_append_left (List.getElem?_eq_some_iff.1 hj).1]
 exact hj
theorem l0g {w : World} {base : Nat} {e : TypeId} {size : Nat} {v : Value} {n : Nat} {xs : List Value} (h : w.ownsRow base e size v n xs) : v.oneCell' = true := by
 obtain ⟨p, c, rfl, _⟩ := a0z h; rfl
theorem v0h {w : World} {f : Nat → Nat} {B : Nat} {x : SrcA} {v : SrcV} (h : Parts w f B x v) : ∀ u ∈ srcC x v, u.oneCell' = true := by
 have hc := h.cond
 rcases hx : x.cond with ⟨k, c, r, a, b, l⟩
 rw [hx] at hc
 unfold CT.At at hc
 obtain ⟨p, cap, hcs, _⟩ := hc
 unfold condC at hcs
 injection hcs with e0 hcs; injection hcs with e1 hcs; injection hcs with e2 hcs; injection hcs with e3 hcs; injection hcs with e4 hcs; injection hcs with e5 hcs
 unfold srcC
 simp only [List.mem_cons, List.not_mem_nil, or_false, forall_eq_or_imp, forall_eq, e0, e1, e2, e3, e4, e5, l0g h.cells.1, l0g h.cores.1, l0g h.tables.1, l0g h.pT.1, l0g h.pC.1, l0g h.pCo.1, l0g h.pI.1, true_and]
 simp [Value.oneCell']
theorem z0u (s : ByteArray) (w : World) (hs : s.size ≤ maxLen) (hc : ¬ (f0i s).1 = 0) :
  Calls Tryz.prog 26 #[.string s] w (f0z s w) := by
 have HT1 := h_ (show Blk ((w.alloc (.cells #[.string ⟨#[]⟩, .slice none 0 0, .slice none 0 0, .bool false, .int .i64 0, .int .i64 0, .int .i64 0, .int .u64 0, .int .u64 0, .slice none 0 0, .slice none 0 0, .slice none 0 0, .slice none 0 0, .slice none 0 0, .slice none 0 0, .int .i64 0] 38)).alloc (.cells #[.int .i64 0, .int .i64 0] 41)) 38 w.heap.size [.string ⟨#[]⟩, .slice none 0 0, .slice none 0 0, .bool false, .int .i64 0, .int .i64 0, .int .i64 0, .int .u64 0, .int .u64 0, .slice none 0 0, .slice none 0 0, .slice none 0 0, .slice none 0 0, .slice none 0 0, .slice none 0 0, .int .i64 0] from (Blk.new w _ _).alloc _)
 have HP1 := h_ (show Blk ((w.alloc (.cells #[.string ⟨#[]⟩, .slice none 0 0, .slice none 0 0, .bool false, .int .i64 0, .int .i64 0, .int .i64 0, .int .u64 0, .int .u64 0, .slice none 0 0, .slice none 0 0, .slice none 0 0, .slice none 0 0, .slice none 0 0, .slice none 0 0, .int .i64 0] 38)).alloc (.cells #[.int .i64 0, .int .i64 0] 41)) 41 (w.heap.size + 1) [.int .i64 0, .int .i64 0] from by simpa using Blk.new (w.alloc (.cells #[.string ⟨#[]⟩, .slice none 0 0, .slice none 0 0, .bool false, .int .i64 0, .int .i64 0, .int .i64 0, .int .u64 0, .int .u64 0, .slice none 0 0, .slice none 0 0, .slice none 0 0, .slice none 0 0, .slice none 0 0, .slice none 0 0, .int .i64 0] 38)) 41 [.int .i64 0, .int .i64 0])
 have HB1 := h_ (show Below w.heap.size w ((w.alloc (.cells #[.string ⟨#[]⟩, .slice none 0 0, .slice none 0 0, .bool false, .int .i64 0, .int .i64 0, .int .i64 0, .int .u64 0, .int .u64 0, .slice none 0 0, .slice none 0 0, .slice none 0 0, .slice none 0 0, .slice none 0 0, .slice none 0 0, .int .i64 0] 38)).alloc (.cells #[.int .i64 0, .int .i64 0] 41)) from bl_ (bl_ (Below.refl _ _) _) _)
 have hz1 : w.heap.size + 1 < ((w.alloc (.cells #[.string ⟨#[]⟩, .slice none 0 0, .slice none 0 0, .bool false, .int .i64 0, .int .i64 0, .int .i64 0, .int .u64 0, .int .u64 0, .slice none 0 0, .slice none 0 0, .slice none 0 0, .slice none 0 0, .slice none 0 0, .slice none 0 0, .int .i64 0] 38)).alloc (.cells #[.int .i64 0, .int .i64 0] 41)).heap.size := by simp
 have HX := h_ (show litA s = (src0, f0i s) by unfold litA; rw [if_neg hc])
 have HCK := h_ (fun w1 => u0n s w1 hs)
 generalize f0i s = q at *
 obtain ⟨qa, qb⟩ := q
 simp only at hc HCK HX
 have hcb : (qa != 0) = true := bne_iff_ne.2 hc
 clear hc
 go_enter Tryz.func26, Tryz.ntmps26
 go_wp2_with fail
 generalize (w.alloc (.cells #[.string ⟨#[]⟩, .slice none 0 0, .slice none 0 0, .bool false, .int .i64 0, .int .i64 0, .int .i64 0, .int .u64 0, .int .u64 0, .slice none 0 0, .slice none 0 0, .slice none 0 0, .slice none 0 0, .slice none 0 0, .slice none 0 0, .int .i64 0] 38)).alloc (.cells #[.int .i64 0, .int .i64 0] 41) = w1 at *
 refine (HCK.out _).mono ?_
 rintro e w2 ⟨rfl, hb⟩
 have hz2 := hb.size
 have HT2 := h_ (HT1.out.below hb)
 have HP2 := h_ (HP1.out.below hb)
 have HB2 := h_ (bt_ HB1.out (hb.mono (by omega)))
 clear hb HT1 HP1 HB1 HCK
 have hn0 : w2.heap.size ≠ w.heap.size := by omega
 have hn1 : w2.heap.size ≠ w.heap.size + 1 := by omega
 have hn2 : w.heap.size + 1 ≠ w.heap.size := by omega
 have m0 : (w2.alloc (.cells #[.int .i64 qa, .int .i64 qb] 41)).cell? ⟨w2.heap.size, 0, none⟩ = some (.int .i64 qa) := (Blk.new w2 41 [.int .i64 qa, .int .i64 qb]).cell 0
 have m1 : (w2.alloc (.cells #[.int .i64 qa, .int .i64 qb] 41)).cell? ⟨w2.heap.size, 1, none⟩ = some (.int .i64 qb) := (Blk.new w2 41 [.int .i64 qa, .int .i64 qb]).cell 1
 have HT := h_ (show Blk (w2.alloc (.cells #[.int .i64 qa, .int .i64 qb] 41)).drew _ _ _ from HT2.out.alloc _)
 have HP := h_ (show Blk (w2.alloc (.cells #[.int .i64 qa, .int .i64 qb] 41)).drew _ _ _ from HP2.out.alloc _)
 have HBq := h_ (show Below w.heap.size w (w2.alloc (.cells #[.int .i64 qa, .int .i64 qb] 41)).drew from (bl_ HB2.out _).drew)
 go_wp2_with fail
 generalize w2.heap.size = h2 at *
 generalize w2.alloc (.cells #[.int .i64 qa, .int .i64 qb] 41) = w3 at *
 refine wp_region_held_drew (S := (fun w' => w'.cell? ⟨h2, 0, none⟩ = some (.int .i64 (qa)) ∧ w'.cell? ⟨h2, 1, none⟩ = some (.int .i64 (qb)))) (by kernel_rfl) (by (try dsimp only); exact ⟨m0, m1⟩) (fun hHeld => ?_)
 refine tk1 0 14 rfl ?_
 simp only [Act.put, tka, tk0, tkS]
 refine tk1 1 15 rfl ?_
 simp only [Act.put, tka, tk0, tkS]
 refine wpAnyH_ready (rs := [2]) (by kernel_rfl) (by simp) ?_
 refine AllReadyH.cons (o := ⟨none, _, _, _, _, _⟩) rfl (fun K hK => ?_) AllReadyH.nil
 rw [if_pos (by rfl)]
 refine wp_store_row 38 (.tmp 2) (.tmp 14) rfl w.heap.size z39 rfl rfl 38 _ HT.out (by kernel_rfl) rfl (by kernel_rfl) ?_
 refine hK.out _ _ (by (try dsimp only); exact ⟨by rw [cell_setRow_other _ _ _ _ hn0]; exact m0, by rw [cell_setRow_other _ _ _ _ hn0]; exact m1⟩) ?_
 clear hK K hHeld
 intro hHeld
 try simp only [Act.put, tka, tk0, tkS]
 refine wpAnyH_ready (rs := [3]) (by kernel_rfl) (by simp) ?_
 refine AllReadyH.cons (o := ⟨none, _, _, _, _, _⟩) rfl (fun K hK => ?_) AllReadyH.nil
 rw [if_pos (by rfl)]
 refine wp_store_row 41 (.tmp 3) (.tmp 15) rfl (w.heap.size + 1) #[.int .i64 (qa), .int .i64 (qb)] rfl rfl 41 _ ((setRow_other _ _ _ _ hn2).trans HP.out) (by kernel_rfl) rfl (by kernel_rfl) ?_
 refine hK.out _ _ (by (try dsimp only); exact ⟨by rw [cell_setRow_other _ _ _ _ hn1, cell_setRow_other _ _ _ _ hn0]; exact m0, by rw [cell_setRow_other _ _ _ _ hn1, cell_setRow_other _ _ _ _ hn0]; exact m1⟩) ?_
 clear hK K hHeld
 intro hHeld
 try simp only [Act.put, tka, tk0, tkS]
 refine wpAnyH_done (by kernel_rfl) ?_ _
 go_wp2
 refine bodyPost_ret (g0d rfl _ _ (w.heap.size) (w.heap.size + 1) 38 41 z39 #[.int .i64 (qa), .int .i64 (qb)] (0, 0) (0, 0) _ _ rfl ?q1 rfl ?q2 Tryz.underlying38 rfl (by kernel_rfl) Tryz.underlying41 rfl (by kernel_rfl)) rfl ?_
 case q1 => exact (setRow_other _ _ _ _ (by omega)).trans (setRow_heap _ _ _ _ _ _ HT.out)
 case q2 => exact setRow_heap _ _ _ _ _ _ ((setRow_other _ _ _ _ (by omega)).trans HP.out)
 exact f0z.of HX.out g1v (p0b _ (fun _ => 0) _) (inv0.1.mono (by omega)) (b0s (b0s HBq.out (Nat.le_refl _) _) (by omega) _) (fun _ _ => rfl)
theorem z0t (s : ByteArray) (w : World) (hs : s.size ≤ maxLen) (hc : (f0i s).1 = 0) :
  Calls Tryz.prog 26 #[.string s] w (f0z s w) := by
 have hs16 : s.size ≤ 16384 := by
  by_cases hl : 16384 < s.size
  ·exact absurd hc (by rw [p0w hl]; decide)
  ·omega
 have hX0 : litA s = g0b s src0 (h0j s 0 []) := by unfold litA; rw [if_pos hc]
 have HLN := h_ (show (h0j s 0 []).length ≤ 16385 by have := c1w _ s 0 [] rfl; simp at this; omega)
 have HRW := h_ (fun w1 => h1e s w1 (by omega) (by omega))
 have HPL := h_ (m1i s)
 have HT1 := h_ (show Blk ((w.alloc (.cells #[.string ⟨#[]⟩, .slice none 0 0, .slice none 0 0, .bool false, .int .i64 0, .int .i64 0, .int .i64 0, .int .u64 0, .int .u64 0, .slice none 0 0, .slice none 0 0, .slice none 0 0, .slice none 0 0, .slice none 0 0, .slice none 0 0, .int .i64 0] 38)).alloc (.cells #[.int .i64 0, .int .i64 0] 41)) 38 w.heap.size [.string ⟨#[]⟩, .slice none 0 0, .slice none 0 0, .bool false, .int .i64 0, .int .i64 0, .int .i64 0, .int .u64 0, .int .u64 0, .slice none 0 0, .slice none 0 0, .slice none 0 0, .slice none 0 0, .slice none 0 0, .slice none 0 0, .int .i64 0] from (Blk.new w _ _).alloc _)
 have HP1 := h_ (show Blk ((w.alloc (.cells #[.string ⟨#[]⟩, .slice none 0 0, .slice none 0 0, .bool false, .int .i64 0, .int .i64 0, .int .i64 0, .int .u64 0, .int .u64 0, .slice none 0 0, .slice none 0 0, .slice none 0 0, .slice none 0 0, .slice none 0 0, .slice none 0 0, .int .i64 0] 38)).alloc (.cells #[.int .i64 0, .int .i64 0] 41)) 41 (w.heap.size + 1) [.int .i64 0, .int .i64 0] from by simpa using Blk.new (w.alloc (.cells #[.string ⟨#[]⟩, .slice none 0 0, .slice none 0 0, .bool false, .int .i64 0, .int .i64 0, .int .i64 0, .int .u64 0, .int .u64 0, .slice none 0 0, .slice none 0 0, .slice none 0 0, .slice none 0 0, .slice none 0 0, .slice none 0 0, .int .i64 0] 38)) 41 [.int .i64 0, .int .i64 0])
 have HB1 := h_ (show Below w.heap.size w ((w.alloc (.cells #[.string ⟨#[]⟩, .slice none 0 0, .slice none 0 0, .bool false, .int .i64 0, .int .i64 0, .int .i64 0, .int .u64 0, .int .u64 0, .slice none 0 0, .slice none 0 0, .slice none 0 0, .slice none 0 0, .slice none 0 0, .slice none 0 0, .int .i64 0] 38)).alloc (.cells #[.int .i64 0, .int .i64 0] 41)) from bl_ (bl_ (Below.refl _ _) _) _)
 have hz1 : w.heap.size + 1 < ((w.alloc (.cells #[.string ⟨#[]⟩, .slice none 0 0, .slice none 0 0, .bool false, .int .i64 0, .int .i64 0, .int .i64 0, .int .u64 0, .int .u64 0, .slice none 0 0, .slice none 0 0, .slice none 0 0, .slice none 0 0, .slice none 0 0, .slice none 0 0, .int .i64 0] 38)).alloc (.cells #[.int .i64 0, .int .i64 0] 41)).heap.size := by simp
 have HCK := h_ (fun w1 => u0n s w1 hs)
 generalize f0i s = q at *
 obtain ⟨qa, qb⟩ := q
 simp only at hc HCK
 subst hc
 have HX0 := h_ hX0
 clear hX0
 generalize h0j s 0 [] = l at *
 go_enter Tryz.func26, Tryz.ntmps26
 go_wp2_with fail
 generalize (w.alloc (.cells #[.string ⟨#[]⟩, .slice none 0 0, .slice none 0 0, .bool false, .int .i64 0, .int .i64 0, .int .i64 0, .int .u64 0, .int .u64 0, .slice none 0 0, .slice none 0 0, .slice none 0 0, .slice none 0 0, .slice none 0 0, .slice none 0 0, .int .i64 0] 38)).alloc (.cells #[.int .i64 0, .int .i64 0] 41) = w1 at *
 refine (HCK.out _).mono ?_
 rintro e w2 ⟨rfl, hb⟩
 have hz2 := hb.size
 have HT2 := h_ (HT1.out.below hb)
 have HP2 := h_ (HP1.out.below hb)
 have HB2 := h_ (bt_ HB1.out (hb.mono (by omega)))
 clear hb HT1 HP1 HB1 HCK
 have HW3 := h_ (show Below w2.heap.size w2 ((w2.alloc (.cells #[.int .i64 0, .int .i64 qb] 41)).alloc (.cells #[.string ⟨#[]⟩, .slice none 0 0, .slice none 0 0, .bool false, .int .i64 0, .int .i64 0, .int .i64 0, .int .u64 0, .int .u64 0, .slice none 0 0, .slice none 0 0, .slice none 0 0, .slice none 0 0, .slice none 0 0, .slice none 0 0, .int .i64 0, .int .i64 0] 111)) from bl_ (bl_ (Below.refl _ _) _) _)
 have HST := h_ (show ST ((w2.alloc (.cells #[.int .i64 0, .int .i64 qb] 41)).alloc (.cells #[.string ⟨#[]⟩, .slice none 0 0, .slice none 0 0, .bool false, .int .i64 0, .int .i64 0, .int .i64 0, .int .u64 0, .int .u64 0, .slice none 0 0, .slice none 0 0, .slice none 0 0, .slice none 0 0, .slice none 0 0, .slice none 0 0, .int .i64 0, .int .i64 0] 111)) (m0s (fun _ => 0) (w2.heap.size + 1) (lab 9 0)) w.heap.size (w2.heap.size + 1) 0 src0 c1n from by simpa using ST.of0 (w := w2.alloc (.cells #[.int .i64 0, .int .i64 qb] 41)) w.heap.size (by simp; omega))
 have HT3 := h_ (HT2.out.below HW3.out)
 have HP3 := h_ (HP2.out.below HW3.out)
 have HB3 := h_ (bt_ HB2.out (HW3.out.mono (by omega)))
 have hz3 : w2.heap.size + 1 < ((w2.alloc (.cells #[.int .i64 0, .int .i64 qb] 41)).alloc (.cells #[.string ⟨#[]⟩, .slice none 0 0, .slice none 0 0, .bool false, .int .i64 0, .int .i64 0, .int .i64 0, .int .u64 0, .int .u64 0, .slice none 0 0, .slice none 0 0, .slice none 0 0, .slice none 0 0, .slice none 0 0, .slice none 0 0, .int .i64 0, .int .i64 0] 111)).heap.size := by simp
 have HF0 := h_ (fun i (hi : i < w2.heap.size + 1) => show m0s (fun _ => 0) (w2.heap.size + 1) (lab 9 0) i = 0 from by rw [i0i _ _ _ i hi])
 have HF1 := h_ (fun i (hi : w2.heap.size + 1 < i) => show m0s (fun _ => 0) (w2.heap.size + 1) (lab 9 0) i = 0 from by unfold m0s; rw [if_neg (by omega)])
 clear HT2 HP2 HB2 HW3
 go_wp2_with fail
 generalize (w2.alloc (.cells #[.int .i64 0, .int .i64 qb] 41)).alloc (.cells #[.string ⟨#[]⟩, .slice none 0 0, .slice none 0 0, .bool false, .int .i64 0, .int .i64 0, .int .i64 0, .int .u64 0, .int .u64 0, .slice none 0 0, .slice none 0 0, .slice none 0 0, .slice none 0 0, .slice none 0 0, .slice none 0 0, .int .i64 0, .int .i64 0] 111) = w3 at *
 generalize m0s (fun _ => 0) (w2.heap.size + 1) (lab 9 0) = f3 at *
 have hz0 : w.heap.size + 1 < w2.heap.size + 1 := by omega
 generalize w2.heap.size + 1 = g at *
 refine (HRW.out _).mono ?_
 rintro e w4 ⟨v4, rfl, ho, hb⟩
 have hz4 := hb.size
 obtain ⟨rp, rc, rfl, hr, hp⟩ := t0p ho
 have HRD := h_ hr
 have HRP := h_ (fun a (ha : rp = some a) => show a.block < w4.heap.size ∧ f3 a.block = 0 from ⟨hp a ha, HF1.out _ (by have := l1p ho a ha; omega)⟩)
 have HST4 := h_ (HST.out.below hb)
 have HT4 := h_ (HT3.out.below hb)
 have HP4 := h_ (HP3.out.below hb)
 have HB4 := h_ (bt_ HB3.out (hb.mono (by omega)))
 clear hb ho hr hp HST HT3 HP3 HB3 HF1 hz2 HRW
 generalize hLN : l.length = n at *
 go_wp2_with fail
 go_loopw [19] (fun i wr => ∃ (k : Nat) (x : SrcA) (v : SrcV) (f' : Nat → Nat), k ≤ n ∧ i = .int .i64 k ∧ ST wr f' w.heap.size g k x v ∧ Inv x k ∧ g0b s src0 l = g0b s x (l.drop k) ∧ Acc w4 f3 wr f') (fun i _ => n - (intOf i).toNat)
 case atStart => exact ⟨0, src0, c1n, f3, by omega, rfl, HST4.out, inv0, rfl, Acc.refl _ _⟩
 case round =>
  obtain ⟨k, x, v, f', hk, rfl, hS, hI, hM, hA⟩ := hrel
  have HS := h_ hS
  have HI := h_ hI
  have HM := h_ hM
  have HA := h_ hA
  clear hS hI hM hA
  have hkn : k ≤ 16385 := by have := HLN.out; omega
  by_cases hlt : k < n
  ·have HMK := h_ (z0g s x l k (by omega))
   have HPK := h_ (HPL.out (l[k]'(by omega)) (List.getElem_mem _))
   have HCL := h_ (x0h s l k (by omega))
   generalize l[k]'(by omega) = r at *
   obtain ⟨ra, rb⟩ := r
   obtain ⟨k0, off, rfl, hcell⟩ := HRD.out.2 (by omega)
   have hrp := HRP.out _ rfl
   have HCE := h_ (fun j (hj : j < n * 2) => (World.cell?_of_block (a := ⟨k0, off + j, none⟩) (HA.out.2.block k0 hrp.1 (by rw [show f3 k0 = 0 from hrp.2]; exact fun hn => hn rfl))).trans (hcell j hj))
   have c0 := HCE.out (k * 2) (by omega)
   have c1 := HCE.out (k * 2 + 1) (by omega)
   rw [HCL.out.1] at c0
   rw [HCL.out.2] at c1
   have c1' : wr.cell? ⟨k0, off + k * 2 + 1, none⟩ = some (.int .i64 (ra : Nat)) := by rw [Nat.add_assoc]; exact c1
   have hk0 : k0 < wr.heap.size := Nat.lt_of_lt_of_le hrp.1 HA.out.2.size
   have hki : ((k : Nat) : Int) < (n : Nat) := by omega
   have HBR := h_ (bl_ (Below.refl wr.heap.size wr) (.cells #[.string (s.extract ra rb), .int .i64 (ra : Nat)] 114))
   have HS5 := h_ ((HS.out.relab (f0w f' wr.heap.size)).below HBR.out)
   have HA5 := h_ ((HA.out.relab (f0w f' wr.heap.size)).below HBR.out)
   have HRO := h_ (m1n HS5.out (s.extract ra rb) ra (by omega) (by simp; omega) (by have := HPK.out; omega) HI.out.2)
   clear c1 hcell HRD HCE HCL hrp
   have HIY := h_ (x0j HI.out (s.extract ra rb) ra)
   go_wp2_with fail
   refine (HRO.out).mono ?_
   rintro e w6 hpost
   clear HRO
   generalize rowA x (s.extract ra rb) ra = y at *
   obtain ⟨y, ca, cb⟩ := y
   obtain ⟨rfl, f6, v6, hS6, hA6⟩ := hpost
   have HS6 := h_ (hS6.resize HIY.out.1 (by omega))
   have HA6 := h_ (HA5.out.trans hA6)
   clear hS6 hA6 HS HA HS5 HA5 HBR
   simp only at HMK HIY
   by_cases hca : ca = 0
   ·subst hca
    have HM2 := h_ (show g0b s src0 l = g0b s y (l.drop (k + 1)) by rw [HM.out, HMK.out, if_pos rfl])
    have HS7 := h_ (HS6.out.below (bl_ (Below.refl _ _) (.cells #[.int .i64 0, .int .i64 cb] 41)))
    have HA7 := h_ (HA6.out.below (bl_ (Below.refl _ _) (.cells #[.int .i64 0, .int .i64 cb] 41)))
    clear c0 c1'
    go_wp2_with fail
    go_roundw
    case rel => exact ⟨k + 1, y, v6, f6, by omega, by go_num, HS7.out, HIY.out, HM2.out, HA7.out⟩
    case measure => simp [intOf]; omega
   ·have HX := h_ (show litA s = (src0, ca, cb) by rw [HX0.out, HM.out, HMK.out, if_neg hca])
    have hcab : (ca != 0) = true := bne_iff_ne.2 hca
    have hg6 := HA6.out.2.size
    have hn0 : w6.heap.size ≠ w.heap.size := by omega
    have hn1 : w6.heap.size ≠ w.heap.size + 1 := by omega
    have hn2 : w.heap.size + 1 ≠ w.heap.size := by omega
    have m0 : (w6.alloc (.cells #[.int .i64 ca, .int .i64 cb] 41)).cell? ⟨w6.heap.size, 0, none⟩ = some (.int .i64 ca) := (Blk.new w6 41 [.int .i64 ca, .int .i64 cb]).cell 0
    have m1 : (w6.alloc (.cells #[.int .i64 ca, .int .i64 cb] 41)).cell? ⟨w6.heap.size, 1, none⟩ = some (.int .i64 cb) := (Blk.new w6 41 [.int .i64 ca, .int .i64 cb]).cell 1
    have HT := h_ (show Blk (w6.alloc (.cells #[.int .i64 ca, .int .i64 cb] 41)).drew _ _ _ from (HA6.out.blk0 HT4.out (HF0.out _ (by omega))).alloc _)
    have HP := h_ (show Blk (w6.alloc (.cells #[.int .i64 ca, .int .i64 cb] 41)).drew _ _ _ from (HA6.out.blk0 HP4.out (HF0.out _ (by omega))).alloc _)
    have HBq := h_ (show Below w.heap.size w (w6.alloc (.cells #[.int .i64 ca, .int .i64 cb] 41)).drew from (bl_ (HA6.out.ofBelow HB4.out (by omega) (fun i hi => HF0.out i (by omega))) _).drew)
    clear hca c0 c1' HS6 HA6 HRP HPL
    go_wp2_with fail
    generalize w6.heap.size = h2 at *
    generalize w6.alloc (.cells #[.int .i64 ca, .int .i64 cb] 41) = w7 at *
    refine wp_region_held_drew (S := (fun w' => w'.cell? ⟨h2, 0, none⟩ = some (.int .i64 (ca)) ∧ w'.cell? ⟨h2, 1, none⟩ = some (.int .i64 (cb)))) (by kernel_rfl) (by (try dsimp only); exact ⟨m0, m1⟩) (fun hHeld => ?_)
    refine tk1 0 28 rfl ?_
    simp only [Act.put, tka, tk0, tkS]
    refine tk1 1 29 rfl ?_
    simp only [Act.put, tka, tk0, tkS]
    refine wpAnyH_ready (rs := [2]) (by kernel_rfl) (by simp) ?_
    refine AllReadyH.cons (o := ⟨none, _, _, _, _, _⟩) rfl (fun K hK => ?_) AllReadyH.nil
    rw [if_pos (by rfl)]
    refine wp_store_row 38 (.tmp 2) (.tmp 28) rfl w.heap.size z39 rfl rfl 38 _ HT.out (by kernel_rfl) rfl (by kernel_rfl) ?_
    refine hK.out _ _ (by (try dsimp only); exact ⟨by rw [cell_setRow_other _ _ _ _ hn0]; exact m0, by rw [cell_setRow_other _ _ _ _ hn0]; exact m1⟩) ?_
    clear hK K hHeld
    intro hHeld
    try simp only [Act.put, tka, tk0, tkS]
    refine wpAnyH_ready (rs := [3]) (by kernel_rfl) (by simp) ?_
    refine AllReadyH.cons (o := ⟨none, _, _, _, _, _⟩) rfl (fun K hK => ?_) AllReadyH.nil
    rw [if_pos (by rfl)]
    refine wp_store_row 41 (.tmp 3) (.tmp 29) rfl (w.heap.size + 1) #[.int .i64 (ca), .int .i64 (cb)] rfl rfl 41 _ ((setRow_other _ _ _ _ hn2).trans HP.out) (by kernel_rfl) rfl (by kernel_rfl) ?_
    refine hK.out _ _ (by (try dsimp only); exact ⟨by rw [cell_setRow_other _ _ _ _ hn1, cell_setRow_other _ _ _ _ hn0]; exact m0, by rw [cell_setRow_other _ _ _ _ hn1, cell_setRow_other _ _ _ _ hn0]; exact m1⟩) ?_
    clear hK K hHeld
    intro hHeld
    try simp only [Act.put, tka, tk0, tkS]
    refine wpAnyH_done (by kernel_rfl) ?_ _
    go_wp2
    refine bodyPost_ret (g0d rfl _ _ (w.heap.size) (w.heap.size + 1) 38 41 z39 #[.int .i64 (ca), .int .i64 (cb)] (0, 0) (0, 0) _ _ rfl ?q1 rfl ?q2 Tryz.underlying38 rfl (by kernel_rfl) Tryz.underlying41 rfl (by kernel_rfl)) rfl ?_
    case q1 => exact (setRow_other _ _ _ _ (by omega)).trans (setRow_heap _ _ _ _ _ _ HT.out)
    case q2 => exact setRow_heap _ _ _ _ _ _ ((setRow_other _ _ _ _ (by omega)).trans HP.out)
    exact f0z.of HX.out g1v (p0b _ (fun _ => 0) _) (inv0.1.mono (by omega)) (b0s (b0s HBq.out (Nat.le_refl _) _) (by omega) _) (fun _ _ => rfl)
  ·have hkn2 : k = n := by omega
   subst hkn2
   have c16 := HS.out.after
   have hgl := HS.out.lt
   have hki : ¬ (((k : Nat) : Int) < (k : Nat)) := by omega
   have hMX : g0b s src0 l = if x.after = 4 then (x, 0, 0) else (src0, 110, (s.size : Int)) := by rw [HM.out, ← hLN, List.drop_length]; rfl
   have HT := h_ (HA.out.blk0 HT4.out (HF0.out _ (by omega)))
   have HP := h_ (HA.out.blk0 HP4.out (HF0.out _ (by omega)))
   have HBq := h_ (HA.out.ofBelow HB4.out (by omega) (fun i hi => HF0.out i (by omega)))
   have hn2 : w.heap.size + 1 ≠ w.heap.size := by omega
   by_cases h4 : x.after = 4
   ·have HX := h_ (show litA s = (x, 0, 0) by rw [HX0.out, hMX, if_pos h4])
    have h4b : (((x.after : Nat) : Int) != 4) = false := by rw [h4]; rfl
    have HRA := h_ (c1m HS.out)
    have HON := h_ (v0h HS.out.parts)
    have HI39 := h_ (show (Tryz.prog.info? 38).map (·.size) = some 16 by kernel_rfl)
    have HSZ := h_ (show (srcC x v).toArray.size = 16 from rfl)
    clear h4 hMX
    go_wp2_with (first | (refine wpList_load_mid rfl 38 (.tmp 38) rfl g 0 rfl (srcC x v) _ HRA.out Tryz.underlying38 rfl HI39.out ?_) | (refine wpList_store_row rfl 38 (.tmp 2) (.tmp 39) rfl w.heap.size (srcC x v).toArray rfl rfl 38 _ HT.out HI39.out HSZ.out.symm (all_oneCell_toArray HON.out) ?_) | (refine wpList_store_row rfl 41 (.tmp 3) (.tmp 40) rfl (w.heap.size + 1) #[.int .i64 0, .int .i64 0] rfl rfl 41 _ ((setRow_other _ _ _ _ hn2).trans HP.out) (by kernel_rfl) rfl (by kernel_rfl) ?_))
    have HA0 : ∀ i, i < g → f' i = 0 := fun i hi => by rw [HA.out.1 i (by omega)]; exact HF0.out i hi
    refine bodyPost_ret (g0d rfl _ _ (w.heap.size) (w.heap.size + 1) 38 41 (srcC x v).toArray #[.int .i64 (0), .int .i64 (0)] (0, 0) (0, 0) _ _ rfl ?q1 rfl ?q2 Tryz.underlying38 rfl (by kernel_rfl) Tryz.underlying41 rfl (by kernel_rfl)) rfl ?_
    case q1 => exact (setRow_other _ _ _ _ (by omega)).trans (setRow_heap _ _ _ _ _ _ HT.out)
    case q2 => exact setRow_heap _ _ _ _ _ _ ((setRow_other _ _ _ _ (by omega)).trans HP.out)
    exact f0z.of HX.out rfl (HS.out.parts.gl (L := fun n => n = 0) (((GL.refl f' _ _).setRow (HA0 _ (by omega)) _).setRow (HA0 _ (by omega)) _) (fun _ _ => rfl) (fun k i h1 h2 hn => by unfold lab at hn; omega)) (HI.out.1.mono (by omega)) (b0s (b0s HBq.out (Nat.le_refl _) _) (by omega) _) (fun i hi => HA0 i (by omega))
   ·have HX := h_ (show litA s = (src0, 110, (s.size : Int)) by rw [HX0.out, hMX, if_neg h4])
    have h4b : (((x.after : Nat) : Int) != 4) = true := bne_iff_ne.2 (by omega)
    clear h4 hMX
    go_wp2_with (first | (refine wpList_store_row rfl 38 (.tmp 2) (.tmp 34) rfl w.heap.size z39 rfl rfl 38 _ HT.out (by kernel_rfl) rfl (by kernel_rfl) ?_) | (refine wpList_store_row rfl 41 (.tmp 3) (.tmp 37) rfl (w.heap.size + 1) #[.int .i64 110, .int .i64 (s.size : Nat)] rfl rfl 41 _ ((setRow_other _ _ _ _ hn2).trans HP.out) (by kernel_rfl) rfl (by kernel_rfl) ?_))
    refine bodyPost_ret (g0d rfl _ _ (w.heap.size) (w.heap.size + 1) 38 41 z39 #[.int .i64 (110), .int .i64 ((s.size : Nat))] (0, 0) (0, 0) _ _ rfl ?q1 rfl ?q2 Tryz.underlying38 rfl (by kernel_rfl) Tryz.underlying41 rfl (by kernel_rfl)) rfl ?_
    case q1 => exact (setRow_other _ _ _ _ (by omega)).trans (setRow_heap _ _ _ _ _ _ HT.out)
    case q2 => exact setRow_heap _ _ _ _ _ _ ((setRow_other _ _ _ _ (by omega)).trans HP.out)
    exact f0z.of HX.out g1v (p0b _ (fun _ => 0) _) (inv0.1.mono (by omega)) (b0s (b0s HBq.out (Nat.le_refl _) _) (by omega) _) (fun _ _ => rfl)
theorem j1g (s : ByteArray) (w : World) (hs : s.size ≤ maxLen) : Calls Tryz.prog 26 #[.string s] w (f0z s w) := by
 by_cases hc : (f0i s).1 = 0
 ·exact z0t s w hs hc
 ·exact z0u s w hs hc
end
section
open Go.RowKit
theorem v0g (w1 : World) (A B : Obj) (T1 T2 : TypeId) (z1 z2 cs ps : Array Value) (hA : A = .cells z1 T1 (0, 0)) (hB : B = .cells z2 T2 (0, 0)) : Blk ((((w1.alloc A).alloc B).setRow w1.heap.size cs).setRow (w1.heap.size + 1) ps) T1 w1.heap.size cs.toList ∧ Blk ((((w1.alloc A).alloc B).setRow w1.heap.size cs).setRow (w1.heap.size + 1) ps) T2 (w1.heap.size + 1) ps.toList ∧ Below w1.heap.size w1 ((((w1.alloc A).alloc B).setRow w1.heap.size cs).setRow (w1.heap.size + 1) ps) := by
 subst hA hB
 refine ⟨?_, ?_, b0s (b0s (bl_ (bl_ (Below.refl _ _) _) _) (Nat.le_refl _) _) (by omega) _⟩
 ·exact (setRow_other _ _ _ _ (by omega)).trans (setRow_heap _ _ _ _ _ _ (heap_alloc2_old w1 _ _))
 ·exact setRow_heap _ _ _ _ _ _ ((setRow_other _ _ _ _ (by omega)).trans (heap_alloc2_new w1 _ _))
theorem g1w {w : World} {T : TypeId} {g : Nat} {x : SrcA} {v : SrcV} (h : Blk w T g (srcC x v).toArray.toList) : w.cell? ⟨g, 0, none⟩ = some (.string x.name) ∧ w.cell? ⟨g, 1, none⟩ = some (v.vC) ∧ w.cell? ⟨g, 2, none⟩ = some (v.vCo) ∧ w.cell? ⟨g, 3, none⟩ = some (.bool x.fa) ∧ w.cell? ⟨g, 4, none⟩ = some (v.k0) ∧ w.cell? ⟨g, 5, none⟩ = some (v.k1) ∧ w.cell? ⟨g, 6, none⟩ = some (v.k2) ∧ w.cell? ⟨g, 7, none⟩ = some (v.k3) ∧ w.cell? ⟨g, 8, none⟩ = some (v.k4) ∧ w.cell? ⟨g, 9, none⟩ = some (v.k5) ∧ w.cell? ⟨g, 10, none⟩ = some (v.vT) ∧ w.cell? ⟨g, 11, none⟩ = some (v.vPT) ∧ w.cell? ⟨g, 12, none⟩ = some (v.vPC) ∧ w.cell? ⟨g, 13, none⟩ = some (v.vPCo) ∧ w.cell? ⟨g, 14, none⟩ = some (v.vPI) ∧ w.cell? ⟨g, 15, none⟩ = some (.int .i64 x.pCond) :=
 ⟨h.cell 0, h.cell 1, h.cell 2, h.cell 3, h.cell 4, h.cell 5, h.cell 6, h.cell 7, h.cell 8, h.cell 9, h.cell 10, h.cell 11, h.cell 12, h.cell 13, h.cell 14, h.cell 15⟩
end
section
open Go.RowKit
end
end Go.Proofs.YtmnojnopejhebaaGreat
