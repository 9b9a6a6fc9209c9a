/- The cells of a test that may be. -/
import Derived.Test.YtmnojnopejhebaaGreatMgbi
import Derived.Test.YtmnojnopejhebaaGreatMgbk
import Derived.RangeFuncBox
import Derived.RangeFuncNested
import Derived.RangeFuncBound
import Derived.RangeFuncCalls
import Derived.RangeFuncLeaves
import Derived.Shelf.Abstract
import Derived.WalkKit
import Derived.WalkSmall
import Derived.OwnWalkIn
import Derived.TacticsInMore
import Derived.LoopNIn
import Derived.LoopIn
import Derived.Maps.AppendAt
namespace Go.Proofs.YtmnojnopejhebaaGreat
set_option linter.unusedVariables false
set_option linter.unusedSimpArgs false
set_option maxRecDepth 100000
set_option maxHeartbeats 25600000
section
open Go.RowKit Go.Shelf
attribute [local go_sem] Oper.semAt_some
abbrev encP (p : Nat × Nat) : Array Value := #[.int .u64 (p.1 : Int), .int .u64 (p.2 : Int)]
def KpE (n₀ Bn : Nat) (kv vv : Value) (A B : World) : Prop := Below n₀ A B ∧ (Blk A 57 Bn [kv, vv] → Blk B 57 Bn [kv, vv])
theorem kpE_t {n₀ Bn : Nat} {kv vv : Value} {A B C : World} (h : KpE n₀ Bn kv vv A B) (k : KpE n₀ Bn kv vv B C) : KpE n₀ Bn kv vv A C := ⟨h.1.trans k.1, fun x => k.2 (h.2 x)⟩
theorem kpE_b {n₀ Bn : Nat} {kv vv : Value} {w : World} (hn : n₀ ≤ w.heap.size) (hB : Bn < w.heap.size) (W : World) (l : Nat) (o o' : Obj) (hl : w.heap.size ≤ l) (h : W.heap[l]? = some o) (h1 : o.isCells = false) (h2 : o.isWalk = false) : KpE n₀ Bn kv vv W (W.putObj l o') :=
 ⟨belowK_b hn W l o o' hl h h1 h2, fun x => x.kept (grownBy_putObj' W l o') (by simp; omega)⟩
theorem RowV.belowB {B : Nat} {w w' : World} {v : Value} {zs : List Nat} (h : RowV w v zs) (hB : ∀ p n c, v = .slice (some p) n c → 0 < n → p.block < B) (hb : Below B w w') : RowV w' v zs := by
 obtain ⟨p, c, rfl, R, h3⟩ := h
 refine ⟨p, c, rfl, ⟨R.1, fun h0 => ?_⟩, h3⟩
 obtain ⟨g, off, rfl, hc⟩ := R.2 h0
 have hg : g < B := hB _ _ _ rfl h0
 exact ⟨g, off, rfl, fun j hj => (hb.cell (p := ⟨g, off + j, none⟩) hg).trans (hc j hj)⟩
theorem c1l {w : World} {v : Value} {zs : List Nat} (h : RowV w v zs) : ∀ p n c, v = .slice (some p) n c → 0 < n → p.block < w.heap.size := by
 obtain ⟨q, d, rfl, R, h3⟩ := h
 rintro p n c e hn
 cases e
 obtain ⟨g, off, u, hp, _, hc⟩ := R.at_ (j := 0) (by omega)
 cases hp
 exact World.block_lt_of_cell? w _ hc
theorem i1g (F : Fence) (n : Nat) (h6 : F.fn 83) (hro : F.round = none) (hn : 1 ≤ n) (l Bn : Nat) (kv vv : Value) (m : List (Nat × Nat)) (w : World) (hM : MapAt w kv vv m) (J Jx : List (Nat × Nat) → World → Prop)
  (hY : ∀ pre x W, J pre W → pre.length < m.length → YieldAt F (n - 1) Tryz.prog l (encP x) W fun e W' =>
   (e = .returned (.bool true) ∧ J (pre ++ [x]) W' ∧ KpE w.heap.size Bn kv vv W W') ∨ (e = .returned (.bool false) ∧ Jx (pre ++ [x]) W'))
  (W : World) (hB : Blk W 57 Bn [kv, vv]) (hW : Below w.heap.size w W) (h0 : J [] W) :
  CallsIn F n Tryz.prog 83 #[.func (.yield l) #[] #[], .pointer (some ⟨Bn, 0, none⟩)] W fun e W' => (∃ v, e = .returned v) ∧
   ((∃ ys, ys = m ∧ J ys W') ∨ (∃ pre, True ∧ Jx pre W')) := by
 have hL1 := hM.keys
 have hL2 := hM.vals
 have b1 := c1l hL1
 have b2 := c1l hL2
 obtain ⟨p, c, rfl, R, hc⟩ := hM.keys
 obtain ⟨q, d, rfl, S, hd⟩ := hM.vals
 have hK := h_ (fun (wr : World) (hb : Below w.heap.size w wr) (k : Nat) (hk : k < (m.map Prod.fst).length) => j0f (R.below hb) hk)
 have hV := h_ (fun (wr : World) (hb : Below w.heap.size w wr) (k : Nat) (hk : k < (m.map Prod.snd).length) => j0f (S.below hb) hk)
 have hX := h_ (fun (k : Nat) (hk : k < m.length) => show m.take k ++ [((m.map Prod.fst).getD k 0, (m.map Prod.snd).getD k 0)] = m.take (k + 1) by
  have e : ((m.map Prod.fst).getD k 0, (m.map Prod.snd).getD k 0) = m[k] := by simp [List.getD, List.getElem?_eq_getElem hk]
  rw [e, l0m hk])
 have hN1 := h_ (show (m.map Prod.fst).length = m.length by simp)
 have hN2 := h_ (show (m.map Prod.snd).length = m.length by simp)
 have hS := h_ hM.len
 clear hM hL1 hL2 b1 b2 R S hc hd
 generalize m.map Prod.fst = ks at *
 generalize m.map Prod.snd = vs at *
 refine callsIn_of_wp Tryz.func83 rfl h6 ?_ hro
 simp only [Tryz.ntmps83, List.size_toArray, List.length_cons, List.length_nil, Nat.reduceAdd, Nat.reduceSub, Array.replicate_succ, Array.replicate_zero, List.push_toArray, List.append_toArray, List.nil_append, List.cons_append]
 have m0 := hB.cell 0
 have ml := hB.lt
 simp only [gz_] at m0
 gi_wp2
 clear m0 ml
 gi_loopw [8] (fun i wr => ∃ k : Nat, k ≤ ks.length ∧ i = .int .i64 k ∧ Blk wr 57 Bn [.slice p ks.length c, .slice q vs.length d] ∧ Below w.heap.size w wr ∧ J (m.take k) wr) (fun i _ => ks.length - (intOf i).toNat)
 case atStart => exact ⟨0, Nat.zero_le _, rfl, hB, hW, h0⟩
 case round =>
  obtain ⟨k, hk, rfl, hB2, hW2, hJ2⟩ := hrel
  by_cases hkl : k < ks.length
  ·have hkn : (k : Int) < ks.length := by omega
   have hk2 : k < vs.length := by have := hN1.out; have := hN2.out; omega
   have hkn2 : (k : Int) < vs.length := by omega
   have hks : (ks.length : Int) ≤ 20000 := by have := hS.out; have := hN1.out; omega
   obtain ⟨g, off, rfl, c0⟩ := hK.out wr hW2 k hkl
   obtain ⟨g2, off2, rfl, c1⟩ := hV.out wr hW2 k hk2
   have HX := hX.out k (by have := hN1.out; omega)
   have m1 := hB2.cell 1
   have ml := hB2.lt
   simp only [gz_, gs_] at m1
   generalize ks.getD k 0 = z at *
   generalize vs.getD k 0 = y at *
   obtain ⟨fn, tmps, assign, body, hy, hR⟩ := hY (m.take k) (z, y) wr hJ2 (by rw [List.length_take]; have := hN1.out; omega)
   dsimp only [encP] at hy
   gi_wp2
   refine hR.mono ?_
   rintro e W3 (⟨rfl, hJ3, hk3⟩ | ⟨rfl, hJx3⟩)
   ·gi_wp2
    go_roundw
    case rel => exact ⟨k + 1, by omega, by go_num, hk3.2 hB2, hW2.trans hk3.1, by rw [← HX]; exact hJ3⟩
    case measure => simp [intOf] <;> omega
   ·gi_wp2
    refine bodyPost_ret (results_none rfl _ _ _) rfl ?_
    exact ⟨⟨_, rfl⟩, .inr ⟨_, trivial, hJx3⟩⟩
  ·have hkn : (ks.length : Int) ≤ k := by omega
   obtain rfl : k = ks.length := by omega
   gi_wp2
   go_end0
   exact ⟨⟨_, rfl⟩, .inl ⟨m, rfl, by rw [hN1.out, List.take_length] at hJ2; exact hJ2⟩⟩
theorem l1q (F : Fence) (n : Nat) (h5 : F.fn 53) (hro : F.round = none) (kv vv : Value) (w : World) :
  CallsIn F n Tryz.prog 53 #[.agg #[kv, vv]] w fun e w' => e = .returned (.func (.func 83) #[] #[.pointer (some ⟨w.heap.size, 0, none⟩)]) ∧ w' = w.alloc (.cells #[kv, vv] 57) := by
 refine callsIn_of_wp Tryz.func53 rfl h5 ?_ hro
 simp only [Tryz.ntmps53, List.size_toArray, List.length_cons, List.length_nil, Nat.reduceAdd, Nat.reduceSub, Array.replicate_succ, Array.replicate_zero, List.push_toArray, List.append_toArray, List.nil_append, List.cons_append]
 gi_wp2
 go_ret
 exact ⟨rfl, rfl⟩
theorem a1a (F : Fence) (n : Nat) (h6 : F.fn 83) (hro : F.round = none) (hn : 1 ≤ n) (Bn : Nat) (kv vv : Value) (m : List (Nat × Nat)) (w w0 : World) (hM : MapAt w kv vv m) (hB : Blk w0 57 Bn [kv, vv]) (hW : Below w.heap.size w w0) :
  SeqStopsK F n Tryz.prog 83 #[.pointer (some ⟨Bn, 0, none⟩)] encP (KpE w.heap.size Bn kv vv) (fun ys => ys = m) (fun _ => True) m.length w0 := fun l J Jx W hb _ _ hY h0 =>
 i1g F n h6 hro hn l Bn kv vv m w hM J Jx hY W (hB.below hb) (bt_ hW hb) h0
theorem el_ec : El Tryz.prog 24 79 (.agg #[.int .u64 0, .int .u64 0]) 2 16 := ⟨Tryz.underlying24, by kernel_rfl⟩
theorem w0i {W : World} {B : Nat} {t e : TypeId} {cs : List Value} (h : Blk W t B cs) (hte : t ≠ e) {base size k : Nat} {v : Value} {xs : List Value} (hr : W.ownsRow base e size v k xs) : some B ≠ v.ownBlock := by
 rcases hr.2 with ⟨rfl, _⟩ | ⟨g, cap, cur, rfl, _, hgb, _⟩
 ·simp [Value.ownBlock]
 ·intro e'
  obtain rfl : B = g := by simpa [Value.ownBlock] using e'
  have := (show W.heap[B]? = _ from h).symm.trans hgb
  simp at this
  exact hte this.2
theorem d1o (F : Fence) (n : Nat) (h3 : F.fn 23) (h4 : F.fn 53) (h5 : F.fn 83) (hro : F.round = none) (hn : 3 ≤ n) (kv vv : Value) (m : List (Nat × Nat)) (w : World) (hM : MapAt w kv vv m) :
  CallsIn F n Tryz.prog 23 #[.agg #[kv, vv]] w fun e w' => ∃ v, e = .returned v ∧ w'.ownsRow w.heap.size 79 2 v m.length (cellL m) ∧ Below w.heap.size w w' := by
 have h1 : 1 ≤ n := by omega
 have hlen := hM.len
 obtain ⟨i0, hi, hz0, hz1, hz2⟩ := info_parts el_ec.2
 refine callsIn_of_wp_marks Tryz.func23 rfl h3 ?_ hro
 simp only [Tryz.ntmps23, List.size_toArray, List.length_cons, List.length_nil, Nat.reduceAdd, Nat.reduceSub, Array.replicate_succ, Array.replicate_zero, List.push_toArray, List.append_toArray, List.nil_append, List.cons_append]
 gi_wp2_with (gi_at_call 53; refine (l1q F (n - 1) h4 hro _ _ _).mono ?_; rintro e w' ⟨rfl, rfl⟩)
 have bO := Boxed.new (w.alloc (.cells #[kv, vv] 59)) 24 (.slice none 0 0)
 rw [World.size_alloc] at bO
 have bM := Blk.new ((w.alloc (.cells #[kv, vv] 59)).alloc (.cells #[.slice none 0 0] 24)) 57 [kv, vv]
 rw [World.size_alloc, World.size_alloc] at bM
 have hB0 : Below w.heap.size w (((w.alloc (.cells #[kv, vv] 59)).alloc (.cells #[.slice none 0 0] 24)).alloc (.cells #[kv, vv] 57)) := ((((Below.refl _ w).alloc (Nat.le_refl _) _).alloc (by simp) _).alloc (by simp; omega) _)
 refine wpIn_rangeFunc_ownG hro h1 (gf := 83) (lb := #[.pointer (some ⟨w.heap.size + 1 + 1, 0, none⟩)]) rfl h5 (enters_of Tryz.func83 (by kernel_rfl) rfl)
  (a1a F (n - 1) h5 hro (by omega) (w.heap.size + 1 + 1) kv vv m w _ hM bM hB0) kpE_t (kpE_b (by simp; omega) (by simp)) (Below.refl _ _) (fun _ => rfl)
  (fun pre W => (∃ v, Boxed W (w.heap.size + 1) 24 v ∧ W.ownsRow w.heap.size 79 2 v pre.length (cellL pre) ∧ True) ∧ Below w.heap.size w W)
  (fun _ _ _ => False)
  (OwnFrom.and (Own.from (holdsRow_own w.heap.size (w.heap.size + 1) 24 79 2 (fun pre => pre.length) (fun pre => cellL pre) (fun _ _ => True)) _) (ownFrom_below (Nat.le_refl _) (by simp; omega)))
  (fun _ _ _ _ _ hs _ _ => hs)
  ⟨⟨_, bO.alloc _, World.ownsRow_nil _ _ _ _, trivial⟩, hB0⟩
  (fun x => { tmps := #[.agg #[kv, vv], .pointer (some ⟨w.heap.size, 0, none⟩), .slice none 0 0, .pointer (some ⟨w.heap.size + 1, 0, none⟩), .int .u64 (x.1 : Int), .int .u64 (x.2 : Int), .pointer (some ⟨w.heap.size, 0, none⟩), .agg #[kv, vv], .func (.func 83) #[] #[.pointer (some ⟨w.heap.size + 1 + 1, 0, none⟩)], .int .u64 (x.1 : Int), .int .u64 (x.2 : Int), undef, undef, undef, undef, undef, undef, undef], defers := [] }) ?assign ?body ?done ?stop
 case assign =>
  intro l x W K hK
  gi_wp2
  exact hK
 case body =>
  rintro l pre x W ⟨⟨v, hv, hrow, -⟩, hB⟩ hlt
  have hc := hv.cell
  have hK1 : pre.length + 1 ≤ maxLen := by unfold maxLen; omega
  have hK2 : (pre.length + 1) * 16 ≤ 140737488355328 := by omega
  have hK3 : w.heap.size ≤ (W.alloc (.cells #[.int .u64 (x.1 : Int), .int .u64 (x.2 : Int)] 79)).heap.size := by have := hB.size; simp; omega
  gi_wp2_with (gi_at_builtin; refine wpListIn_append_own _ rfl _ _ 24 rfl w.heap.size 79 i0 _ 2 16 Tryz.underlying24 hi hz0 hz1 hz2 rfl (by decide) _ _ _ rfl (hrow.alloc _) ⟨W.heap.size, 0, none⟩ 1 1 [.int .u64 (x.1 : Int), .int .u64 (x.2 : Int)] rfl rfl (cell_two_new _ _ _ _) (by simp [Value.oneCell']) hK1 hK2 hK3 ?_; intro v' w1 hown' hgrow _; obtain ⟨g', cap', rfl⟩ := ownsRow_succ hown'; obtain ⟨hv1, hv2, hr2, hk2, hb2⟩ := hv.appended (by decide) hrow hB.size (Nat.le_succ _) hown' hgrow; have hc1 := hv1.cell; have hf1 := hv1.frozen)
  exact ⟨hk2.from _, ⟨hb2, fun bx => ((bx.alloc _).kept hgrow (w0i bx (by decide) hrow)).other (by simp) _⟩, ⟨_, hv2, by rw [i0b, List.length_append]; exact hr2, trivial⟩, hB.trans hb2⟩
 case done =>
  rintro D ys W hD rfl ⟨⟨v, hv, hrow, -⟩, hB⟩ hK
  have hc := hv.cell
  gi_wp2
  refine ⟨by simp, .inl ⟨_, _, rfl, run_takeDeferred hK, ?_⟩⟩
  exact ⟨_, results_tmp rfl _ _ _, v, rfl, ownsRow_putObj hrow _ hK rfl, hB.trans (belowK_b (w := w) (Nat.le_refl _) W D _ _ (by simp at hD; omega) hK rfl rfl)⟩
 case stop =>
  rintro D c pre W _ _ h _
  exact h.elim
theorem z0l (w : World) {kv vv : Value} {m : List (Nat × Nat)} (hM : MapAt w kv vv m) :
  Calls Tryz.prog 23 #[.agg #[kv, vv]] w fun e w' => ∃ v, e = .returned v ∧ w'.ownsRow w.heap.size 79 2 v m.length (cellL m) ∧ Below w.heap.size w w' :=
 callsIn_wide.1 (d1o Fence.wide 3 trivial trivial trivial rfl (Nat.le_refl _) kv vv m w hM)
end
section
open Go.RowKit
theorem u0c {q : List Int} : ∀ {l pre : List Nat}, pre.Nodup → (cellsE q pre l).1 = 0 → (∀ a ∈ l, f0r a = 0) ∧ (pre ++ l).Nodup
 | [], pre, hp, _ => ⟨fun a ha => absurd ha (by simp), by simpa using hp⟩
 | a :: l, pre, hp, h => by
  by_cases h1 : ¬ f0r a = 0
  ·rw [p0m h1] at h; exact absurd h h1
  by_cases h2 : a ∈ pre
  ·rw [q0t h1 h2] at h; exact absurd h (by show ¬ (130 : Int) = 0; decide)
  rw [p0l h1 h2] at h
  obtain ⟨i1, i2⟩ := u0c (by
   rw [List.nodup_append]
   exact ⟨hp, by simp, fun x hx y hy e => h2 (by rw [List.mem_singleton] at hy; rw [← hy, ← e]; exact hx)⟩) h
  refine ⟨fun x hx => ?_, by simpa using i2⟩
  rcases List.mem_cons.1 hx with rfl | hx
  ·exact Decidable.not_not.1 h1
  ·exact i1 x hx
theorem w0f {x : GSrc} (h : (c0j x).1 = 0) : (∀ p ∈ x.cells, f0r p.1 = 0) ∧ (x.cells.map Prod.fst).Nodup ∧ x.cells.length ≤ 192 := by
 unfold c0j at h
 dsimp only at h
 split at h
 ·rename_i q; exact absurd h q
 split at h
 ·exact absurd h (by show ¬ (2 : Int) = 0; decide)
 rename_i q1
 split at h
 ·rename_i q; exact absurd h q
 rename_i q2
 obtain ⟨i1, i2⟩ := u0c List.nodup_nil (Decidable.not_not.1 q2)
 exact ⟨fun p hp => i1 _ (List.mem_map.2 ⟨p, hp, rfl⟩), by simpa using i2, by omega⟩
theorem c1v {s : ByteArray} (h : (c0o s).2.1 = 0) : (∀ p ∈ (c0o s).1.cells, f0r p.1 = 0) ∧ ((c0o s).1.cells.map Prod.fst).Nodup ∧ (c0o s).1.cells.length ≤ 192 := by
 unfold c0o at h ⊢
 by_cases h1 : ¬ (litA s).2.1 = 0
 ·rw [if_pos h1] at h; exact absurd h h1
 rw [if_neg h1] at h ⊢
 by_cases h2 : ¬ (c0j (gsrc (litA s).1)).1 = 0
 ·rw [if_pos h2] at h; exact absurd h h2
 rw [if_neg h2]
 exact w0f (Decidable.not_not.1 h2)
end
end Go.Proofs.YtmnojnopejhebaaGreat
