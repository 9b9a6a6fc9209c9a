/- store.Map's With: the walk. -/
import Derived.Test.YtmnojnopejhebaaGreatMgaa
import Derived.Test.YtmnojnopejhebaaGreatMgab
import Derived.Test.YtmnojnopejhebaaGreatMgac
import Derived.Test.YtmnojnopejhebaaGreatMgai
namespace Go.Proofs.YtmnojnopejhebaaGreat
set_option linter.unusedVariables false
set_option linter.unusedSimpArgs false
set_option maxRecDepth 100000
set_option maxHeartbeats 25600000
section
def lbK (k : Nat) (ks : List Nat) : Nat := (ks.takeWhile (fun x => decide (x < k))).length
def Ris (ks : List Nat) : Prop := ks.Pairwise (· < ·)
theorem v0m (k a : Nat) (ks : List Nat) : lbK k (a :: ks) = if a < k then lbK k ks + 1 else 0 := by
 unfold lbK
 by_cases h : a < k
 ·rw [if_pos h, List.takeWhile_cons_of_pos (by simpa using h)]; rfl
 ·rw [if_neg h, List.takeWhile_cons_of_neg (by simpa using h)]; rfl
theorem z0p (k : Nat) : ∀ ks : List Nat, lbK k ks ≤ ks.length
 | [] => Nat.le_refl _
 | a :: ks => by
  rw [v0m]; have := z0p k ks
  split <;> simp <;> omega
theorem d1z (k : Nat) : ∀ (ks : List Nat) (j : Nat), j < lbK k ks → ks.getD j 0 < k
 | [], j, h => absurd h (Nat.not_lt_zero _)
 | a :: ks, j, h => by
  rw [v0m] at h
  split at h
  ·cases j with
   | zero => simpa using ‹a < k›
   | succ j => simpa using d1z k ks j (by omega)
  ·omega
theorem e1a (k : Nat) : ∀ (ks : List Nat), Ris ks → ∀ j, lbK k ks ≤ j → j < ks.length → k ≤ ks.getD j 0
 | [], _, j, _, h => absurd h (Nat.not_lt_zero _)
 | a :: ks, hr, j, h, hl => by
  rw [v0m] at h
  have hr' := List.pairwise_cons.1 hr
  split at h
  ·cases j with
   | zero => omega
   | succ j => simpa using e1a k ks hr'.2 j (by omega) (by simpa using hl)
  ·cases j with
   | zero => simp; omega
   | succ j =>
    have hl' : j < ks.length := by simpa using hl
    have := hr'.1 (ks.getD j 0) (by simp [List.getD, List.getElem?_eq_getElem hl'])
    simp only [List.getD_cons_succ]; omega
theorem d1y {k : Nat} {ks : List Nat} (hr : Ris ks) : k ∈ ks ↔ lbK k ks < ks.length ∧ ks.getD (lbK k ks) 0 = k := by
 constructor
 ·intro h
  obtain ⟨j, hj, rfl⟩ := List.getElem_of_mem h
  have hlt : lbK ks[j] ks ≤ j := by
   rcases Nat.lt_or_ge j (lbK ks[j] ks) with h1 | h1
   ·have := d1z _ ks j h1
    simp [List.getD, List.getElem?_eq_getElem hj] at this
   ·exact h1
  have h2 := e1a ks[j] ks hr _ (Nat.le_refl _) (by omega)
  refine ⟨by omega, ?_⟩
  rcases Nat.lt_or_ge (lbK ks[j] ks) j with h3 | h3
  ·have h4 := (List.pairwise_iff_getElem.1 hr) _ _ (by omega) hj h3
   simp only [List.getD, List.getElem?_eq_getElem (show lbK ks[j] ks < ks.length by omega), Option.getD_some] at h2
   omega
  ·rw [show lbK ks[j] ks = j by omega]; simp [List.getD, List.getElem?_eq_getElem hj]
 ·rintro ⟨h1, h2⟩
  rw [← h2]; simp [List.getD, List.getElem?_eq_getElem h1]
def memI (a v : Nat) (m : List (Nat × Nat)) : List (Nat × Nat) := m.take (lbK a (m.map Prod.fst)) ++ (a, v) :: m.drop (lbK a (m.map Prod.fst))
theorem k0m (a v : Nat) (m : List (Nat × Nat)) : (memI a v m).length = m.length + 1 := by
 have := z0p a (m.map Prod.fst)
 rw [List.length_map] at this
 unfold memI; simp only [List.length_append, List.length_take, List.length_cons, List.length_drop]; omega
theorem x0i {a v : Nat} {m : List (Nat × Nat)} {p : Nat × Nat} : p ∈ memI a v m ↔ p = (a, v) ∨ p ∈ m := by
 have : p ∈ m ↔ p ∈ m.take (lbK a (m.map Prod.fst)) ∨ p ∈ m.drop (lbK a (m.map Prod.fst)) := by
  rw [← List.mem_append, List.take_append_drop]
 unfold memI; rw [List.mem_append, List.mem_cons, this]
 constructor
 ·rintro (h | h | h)
  ·exact .inr (.inl h)
  ·exact .inl h
  ·exact .inr (.inr h)
 ·rintro (h | h | h)
  ·exact .inr (.inl h)
  ·exact .inl h
  ·exact .inr (.inr h)
theorem x0h {a v : Nat} {m : List (Nat × Nat)} (hr : Ris (m.map Prod.fst)) (hn : a ∉ m.map Prod.fst) : Ris ((memI a v m).map Prod.fst) := by
 generalize hi : lbK a (m.map Prod.fst) = i
 have hlt : ∀ x ∈ (m.map Prod.fst).take i, x < a := fun x hx => by
  obtain ⟨j, hj, rfl⟩ := List.getElem_of_mem hx
  have hji : j < i := by have := hj; rw [List.length_take] at this; omega
  have hjl : j < (m.map Prod.fst).length := by have := hj; rw [List.length_take] at this; omega
  have := d1z a (m.map Prod.fst) j (by omega)
  simp only [List.getD, List.getElem?_eq_getElem hjl, Option.getD_some] at this
  rw [List.getElem_take]; exact this
 have hge : ∀ x ∈ (m.map Prod.fst).drop i, a < x := fun x hx => by
  obtain ⟨j, hj, rfl⟩ := List.getElem_of_mem hx
  have hjl : i + j < (m.map Prod.fst).length := by have := hj; rw [List.length_drop] at this; omega
  have := e1a a (m.map Prod.fst) hr (i + j) (by omega) hjl
  simp only [List.getD, List.getElem?_eq_getElem hjl, Option.getD_some] at this
  rw [List.getElem_drop]
  rcases Nat.lt_or_ge a ((m.map Prod.fst)[i + j]) with h | h
  ·exact h
  ·exact absurd (show a ∈ m.map Prod.fst by rw [show a = (m.map Prod.fst)[i + j] by omega]; exact List.getElem_mem _) hn
 have e : (memI a v m).map Prod.fst = (m.map Prod.fst).take i ++ a :: (m.map Prod.fst).drop i := by
  unfold memI; rw [hi]; simp
 rw [e]
 unfold Ris at *
 rw [List.pairwise_append]
 refine ⟨hr.sublist (List.take_sublist _ _), List.pairwise_cons.2 ⟨hge, hr.sublist (List.drop_sublist _ _)⟩, fun x hx y hy => ?_⟩
 rcases List.mem_cons.1 hy with rfl | hy
 ·exact hlt x hx
 ·exact Nat.lt_trans (hlt x hx) (hge y hy)
def memF : List (Nat × Nat) → List (Nat × Nat) → List (Nat × Nat)
 | m, [] => m
 | m, p :: l => memF (if p.2 = 0 then m else memI p.1 p.2 m) l
theorem l0v : ∀ (l m : List (Nat × Nat)) (p : Nat × Nat), memF m (l ++ [p]) = if p.2 = 0 then memF m l else memI p.1 p.2 (memF m l)
 | [], _, _ => rfl
 | _ :: l, _, p => l0v l _ p
structure MF (l m : List (Nat × Nat)) : Prop where
 ris : Ris (m.map Prod.fst)
 mem : ∀ p, p ∈ m ↔ p ∈ l ∧ p.2 ≠ 0
 len : m.length ≤ l.length
theorem mf_nil : MF [] [] := ⟨List.Pairwise.nil, fun p => by simp, Nat.le_refl _⟩
theorem k1s {l m : List (Nat × Nat)} {p : Nat × Nat} (h : MF l m) (hn : p.1 ∉ l.map Prod.fst) : MF (l ++ [p]) (if p.2 = 0 then m else memI p.1 p.2 m) := by
 by_cases h0 : p.2 = 0
 ·rw [if_pos h0]
  refine ⟨h.ris, fun q => ?_, by have := h.len; rw [List.length_append]; omega⟩
  rw [h.mem, List.mem_append]
  constructor
  ·rintro ⟨h1, h2⟩; exact ⟨.inl h1, h2⟩
  ·rintro ⟨h1 | h1, h2⟩
   ·exact ⟨h1, h2⟩
   ·rw [List.mem_singleton] at h1; subst h1; exact absurd h0 h2
 ·rw [if_neg h0]
  refine ⟨x0h h.ris (fun hm => ?_), fun q => ?_, by rw [k0m]; have := h.len; simp; omega⟩
  ·obtain ⟨q, hq, e⟩ := List.mem_map.1 hm
   exact hn (List.mem_map.2 ⟨q, ((h.mem q).1 hq).1, e⟩)
  ·rw [x0i, h.mem, List.mem_append, List.mem_singleton]
   constructor
   ·rintro (rfl | ⟨h1, h2⟩)
    ·exact ⟨.inr rfl, h0⟩
    ·exact ⟨.inl h1, h2⟩
   ·rintro ⟨h1 | h1, h2⟩
    ·exact .inr ⟨h1, h2⟩
    ·exact .inl h1
theorem l0m {α : Type} {l : List α} {k : Nat} (h : k < l.length) : l.take (k + 1) = l.take k ++ [l[k]] := by
 rw [List.take_add_one, List.getElem?_eq_getElem h]; rfl
theorem m0o {l : List (Nat × Nat)} (hd : (l.map Prod.fst).Nodup) {k : Nat} (h : k < l.length) : l[k].1 ∉ (l.take k).map Prod.fst := fun hm => by
 obtain ⟨q, hq, e⟩ := List.mem_map.1 hm
 obtain ⟨j, hj, rfl⟩ := List.getElem_of_mem hq
 rw [List.length_take] at hj
 rw [List.getElem_take] at e
 have := (List.pairwise_iff_getElem.1 hd) j k (by rw [List.length_map]; omega) (by rw [List.length_map]; omega) (by omega)
 simp only [List.getElem_map] at this
 exact this e
theorem o0x {l : List (Nat × Nat)} (hd : (l.map Prod.fst).Nodup) : ∀ k, k ≤ l.length → MF (l.take k) (memF [] (l.take k))
 | 0, _ => mf_nil
 | k + 1, h => by
  rw [l0m (by omega), l0v]
  exact k1s (o0x hd k (by omega)) (m0o hd (by omega))
theorem j1o {l : List (Nat × Nat)} (hd : (l.map Prod.fst).Nodup) : MF l (memF [] l) := by
 have := o0x hd l.length (Nat.le_refl _)
 rwa [List.take_length] at this
def rd1 : List (Nat × Nat) → Nat → Nat
 | [], _ => 0
 | p :: l, a => if p.1 = a then p.2 else rd1 l a
theorem r0e {a : Nat} : ∀ {l : List (Nat × Nat)}, a ∉ l.map Prod.fst → rd1 l a = 0
 | [], _ => rfl
 | p :: l, h => by
  unfold rd1
  rw [if_neg (fun e => h (by simp [e])), r0e (fun hm => h (by simp at hm ⊢; exact .inr hm))]
theorem x0b {a v : Nat} : ∀ {l : List (Nat × Nat)}, (l.map Prod.fst).Nodup → (a, v) ∈ l → rd1 l a = v
 | p :: l, hd, h => by
  rw [List.map_cons, List.nodup_cons] at hd
  unfold rd1
  rcases List.mem_cons.1 h with rfl | h
  ·rw [if_pos rfl]
  ·rw [if_neg (fun e => hd.1 (by rw [e]; exact List.mem_map.2 ⟨_, h, rfl⟩)), x0b hd.2 h]
def getL (m : List (Nat × Nat)) (a : Nat) : Nat := if a ∈ m.map Prod.fst then (m.map Prod.snd).getD (lbK a (m.map Prod.fst)) 0 else 0
theorem l1j {l m : List (Nat × Nat)} (hd : (l.map Prod.fst).Nodup) (h : MF l m) (a : Nat) : getL m a = rd1 l a := by
 unfold getL
 by_cases hm : a ∈ m.map Prod.fst
 ·rw [if_pos hm]
  obtain ⟨h1, h2⟩ := (d1y h.ris).1 hm
  generalize lbK a (m.map Prod.fst) = i at *
  have h3 : i < m.length := by simpa using h1
  have h4 : m[i] ∈ l := ((h.mem _).1 (List.getElem_mem h3)).1
  simp only [List.getD, List.getElem?_map, List.getElem?_eq_getElem h3, Option.map_some, Option.getD_some] at h2 ⊢
  exact (x0b hd (by rw [← h2]; exact h4)).symm
 ·rw [if_neg hm]
  by_cases hl : a ∈ l.map Prod.fst
  ·obtain ⟨q, hq, rfl⟩ := List.mem_map.1 hl
   rw [x0b hd (v := q.2) hq]
   by_cases h0 : q.2 = 0
   ·exact h0.symm
   ·exact absurd (List.mem_map.2 ⟨q, (h.mem q).2 ⟨hq, h0⟩, rfl⟩) hm
  ·exact (r0e hl).symm
end
section
open Go.RowKit
def RowV (w : World) (v : Value) (zs : List Nat) : Prop := ∃ p c, v = .slice p zs.length c ∧ Rds w 1 p zs.length (zs.map u64V) ∧ zs.length ≤ c ∧ c ≤ maxLen ∧ (p = none → c = 0)
theorem RowV.below {w w' : World} {v : Value} {zs : List Nat} (h : RowV w v zs) (hb : Below w.heap.size w w') : RowV w' v zs := by
 obtain ⟨p, c, h1, h2, h3⟩ := h; exact ⟨p, c, h1, h2.below hb, h3⟩
theorem RowV.nil (w : World) : RowV w (.slice none 0 0) [] := ⟨none, 0, rfl, ⟨rfl, fun h => absurd h (by simp)⟩, Nat.le_refl _, by unfold maxLen; omega, fun _ => rfl⟩
theorem RowV.own {w : World} {base : Nat} {e : TypeId} {v : Value} {zs : List Nat} {n : Nat} {xs : List Value} (h : w.ownsRow base e 1 v n xs) (hn : n = zs.length) (hx : xs = zs.map u64V) : RowV w v zs := by
 subst hn hx
 have h' := h
 obtain ⟨hl, ⟨rfl, h0⟩ | ⟨g, cap, cur, rfl, hb, hg, hnc, hc, _⟩⟩ := h
 ·exact ⟨none, 0, by rw [h0], ⟨hl, fun h => absurd h (by omega)⟩, by omega, by unfold maxLen; omega, fun _ => rfl⟩
 ·exact ⟨_, _, rfl, ⟨hl, fun _ => ⟨g, 0, rfl, fun j hj => by rw [Nat.zero_add]; exact h'.cellAt j (by omega)⟩⟩, hnc, hc, fun h => by cases h⟩
structure MapAt (w : World) (kv vv : Value) (m : List (Nat × Nat)) : Prop where
 keys : RowV w kv (m.map Prod.fst)
 vals : RowV w vv (m.map Prod.snd)
 ris : Ris (m.map Prod.fst)
 len : m.length ≤ 20000
 lt : ∀ p ∈ m, p.1 < 18446744073709551616 ∧ p.2 < 18446744073709551616
theorem MapAt.below {w w' : World} {kv vv : Value} {m : List (Nat × Nat)} (h : MapAt w kv vv m) (hb : Below w.heap.size w w') : MapAt w' kv vv m := ⟨h.keys.below hb, h.vals.below hb, h.ris, h.len, h.lt⟩
theorem MapAt.nil (w : World) : MapAt w (.slice none 0 0) (.slice none 0 0) [] := ⟨RowV.nil w, RowV.nil w, List.Pairwise.nil, Nat.zero_le _, fun p hp => by cases hp⟩
theorem r0q (w : World) {kv vv : Value} {ks : List Nat} (h : RowV w kv ks) (hr : Ris ks) (hS : ks.length ≤ 20000) (k : Nat) (hk : k < 18446744073709551616) :
  Calls Tryz.prog 82 #[.agg #[kv, vv], .int .u64 (k : Nat)] w fun e w' => e = .returned (.tuple #[.int .i64 ((lbK k ks : Nat) : Int), .bool (decide (k ∈ ks))]) ∧ Below w.heap.size w w' := by
 obtain ⟨p, c, rfl, R, hc⟩ := h
 have HB1 := h_ (show Below w.heap.size w (w.alloc (.cells #[.slice p ks.length c, vv] 57)) from bl_ (Below.refl _ _) _)
 have HR1 := h_ (R.below HB1.out)
 have HM := h_ (show Blk (w.alloc (.cells #[.slice p ks.length c, vv] 57)) 57 w.heap.size [.slice p ks.length c, vv] from Blk.new w _ _)
 have HLB := h_ (z0p k ks)
 have HLT := h_ (d1z k ks)
 have HGE := h_ (e1a k ks hr)
 have HME := h_ (@d1y k ks hr)
 clear R hr
 go_enter Tryz.func82, Tryz.ntmps82
 have hb0 := HM.out.lt
 have m0 := HM.out.cell 0
 simp only [gz_] at m0
 go_wp2_with fail
 go_quiet (fail)
 go_wp2_with fail
 clear hb0 m0
 generalize w.alloc (.cells #[.slice p ks.length c, vv] 57) = w1 at *
 have HSZ := h_ (show w.heap.size < w1.heap.size from HM.out.lt)
 have HR2 := h_ (fun (wr : World) (hb : Below w1.heap.size w1 wr) (j : Nat) (hj : j < ks.length) => j0f (HR1.out.below hb) hj)
 go_loopw [6, 7] (fun lo hi wr => ∃ a b : Nat, lo = .int .i64 a ∧ hi = .int .i64 b ∧ a ≤ lbK k ks ∧ lbK k ks ≤ b ∧ b ≤ ks.length ∧ Below w1.heap.size w1 wr) (fun lo hi _ => (intOf hi).toNat - (intOf lo).toNat)
 case atStart => exact ⟨0, ks.length, rfl, rfl, Nat.zero_le _, HLB.out, Nat.le_refl _, bd_ (Below.refl _ _) _⟩
 case round =>
  obtain ⟨a, b, rfl, rfl, ha, hb, hbl, hbr⟩ := hrel
  have HM2 := h_ (HM.out.below hbr)
  have HBR := h_ hbr
  have hb0 := HM2.out.lt
  have m0 := HM2.out.cell 0
  simp only [gz_] at m0
  by_cases hab : a < b
  ·have hab' : (a : Int) < b := by omega
   have hmid : ((a : Int) + b) / 2 = (((a + b) / 2 : Nat) : Int) := by omega
   obtain ⟨q, hq⟩ : ∃ q : Nat, q = (a + b) / 2 := ⟨_, rfl⟩
   have hqa : a ≤ q := by omega
   have hqb : q < b := by omega
   obtain ⟨g, off, rfl, hcell⟩ := HR2.out wr hbr q (by omega)
   have hcell2 : wr.cell? ⟨g, off + (a + b) / 2, none⟩ = some (.int .u64 ((ks.getD q 0 : Nat) : Int)) := by rw [← hq]; exact hcell
   have hqn : (a + b) / 2 < ks.length := by omega
   clear hcell hmid
   clear hbr
   have HL := h_ (HLT.out q)
   have HG := h_ (HGE.out q)
   generalize ks.getD q 0 = z at *
   by_cases hz : z < k
   ·have hz' : (z : Int) < k := by omega
    have HA := h_ (show q + 1 ≤ lbK k ks from by
     rcases Nat.lt_or_ge q (lbK k ks) with h | h
     ·exact h
     ·have := HG.out h (by omega); omega)
    go_wp2_with fail
    go_roundw
    case rel => exact ⟨(a + b) / 2 + 1, b, by go_num, rfl, by rw [← hq]; exact HA.out, hb, hbl, HBR.out⟩
    case measure => simp [intOf] <;> omega
   ·have hz' : (k : Int) ≤ z := by omega
    have HA := h_ (show lbK k ks ≤ q from by
     rcases Nat.lt_or_ge q (lbK k ks) with h | h
     ·have := HL.out h; omega
     ·exact h)
    go_wp2_with fail
    go_roundw
    case rel => exact ⟨a, (a + b) / 2, rfl, by go_num, ha, by rw [← hq]; exact HA.out, by omega, HBR.out⟩
    case measure => simp [intOf] <;> omega
  ·obtain rfl : a = lbK k ks := by omega
   obtain rfl : b = lbK k ks := by omega
   clear hab ha hb
   generalize hi : lbK k ks = i at *
   have HI := h_ hi
   by_cases hil : i < ks.length
   ·have hil' : (i : Int) < ks.length := by omega
    obtain ⟨g, off, rfl, hcell⟩ := HR2.out wr hbr i hil
    have HY := h_ (show decide (k ∈ ks) = decide (ks.getD i 0 = k) from by
     by_cases h : ks.getD i 0 = k
     ·rw [decide_eq_true h, decide_eq_true (HME.out.2 ⟨hil, h⟩)]
     ·rw [decide_eq_false h, decide_eq_false (fun hm => h (HME.out.1 hm).2)])
    clear hi hbr
    generalize ks.getD i 0 = z at *
    have HZ := h_ (show ((z : Int) == k) = decide (k ∈ ks) from by
     rw [HY.out]; by_cases h : z = k
     ·subst h; simp
     ·rw [decide_eq_false h]; exact beq_eq_false_iff_ne.2 (by omega))
    go_wp2_with fail
    go_quiet (fail)
    go_wp2_with fail
    go_ret2
    exact ⟨by rw [HI.out, ← HZ.out]; rfl, bd_ (bt_ HB1.out HBR.out) _⟩
   ·have hil' : (ks.length : Int) ≤ i := by omega
    have HY := h_ (show decide (k ∈ ks) = false from decide_eq_false (fun hm => hil (HME.out.1 hm).1))
    clear hi hbr
    go_wp2_with fail
    go_quiet (fail)
    go_wp2_with fail
    go_ret2
    exact ⟨by rw [HI.out, HY.out]; rfl, bd_ (bt_ HB1.out HBR.out) _⟩
theorem l1i (w : World) {kv vv : Value} {m : List (Nat × Nat)} (h : MapAt w kv vv m) (k : Nat) (hk : k < 18446744073709551616) :
  Calls Tryz.prog 52 #[.agg #[kv, vv], .int .u64 (k : Nat)] w fun e w' => e = .returned (.tuple #[.int .u64 ((getL m k : Nat) : Int), .bool (decide (k ∈ m.map Prod.fst))]) ∧ Below w.heap.size w w' := by
 have HB1 := h_ (show Below w.heap.size w (w.alloc (.cells #[kv, vv] 57)) from bl_ (Below.refl _ _) _)
 have HM := h_ (show Blk (w.alloc (.cells #[kv, vv] 57)) 57 w.heap.size [kv, vv] from Blk.new w _ _)
 have HF := h_ (r0q _ (vv := vv) (h.keys.below HB1.out) h.ris (by rw [List.length_map]; exact h.len) k hk)
 have HL := h_ (@d1y k _ h.ris)
 obtain ⟨p, c, rfl, R, hc⟩ := h.vals
 have HR := h_ (R.below HB1.out)
 have HLN := h_ (show (m.map Prod.fst).length = (m.map Prod.snd).length by simp)
 have HG : Hid (getL m k = if k ∈ m.map Prod.fst then (m.map Prod.snd).getD (lbK k (m.map Prod.fst)) 0 else 0) := h_ rfl
 have HN := h_ (z0p k (m.map Prod.fst))
 clear h R hc
 generalize getL m k = G at *
 generalize m.map Prod.fst = ks at *
 generalize m.map Prod.snd = vs at *
 go_enter Tryz.func52, Tryz.ntmps52
 have hb0 := HM.out.lt
 have m0 := HM.out.cell 0
 have m1 := HM.out.cell 1
 simp only [gz_, gs_] at m0 m1
 go_wp2_with fail
 refine (HF.out).mono ?_
 rintro e w2 ⟨rfl, hb⟩
 have HB2 := h_ (bt_ HB1.out hb)
 have HM2 := h_ (HM.out.below hb)
 have HR2 := h_ (HR.out.below hb)
 clear hb HF hb0 m0 m1
 have hb0 := HM2.out.lt
 have m1 := HM2.out.cell 1
 simp only [gz_, gs_] at m1
 generalize lbK k ks = i at *
 by_cases hm : k ∈ ks
 ·have hi := (HL.out.1 hm).1
  obtain ⟨g, off, rfl, hc⟩ := j0f HR2.out (j := i) (by have := HLN.out; omega)
  have hi0 : (i : Int) < vs.length := by have := HLN.out; omega
  have HT := h_ (show G = vs.getD i 0 by rw [HG.out, if_pos hm])
  generalize vs.getD i 0 = z at *
  have HD := h_ (decide_eq_true hm)
  rw [HD.out]
  clear hi hm
  go_wp2_with fail
  go_ret2
  exact ⟨by rw [HT.out, HD.out]; rfl, HB2.out⟩
 ·have HT := h_ (show G = 0 by rw [HG.out, if_neg hm])
  have HD := h_ (decide_eq_false hm)
  rw [HD.out]
  clear hm
  go_wp2_with fail
  go_ret2
  exact ⟨by rw [HT.out, HD.out]; rfl, HB2.out⟩
theorem d1n (w : World) {kv vv : Value} {m : List (Nat × Nat)} (h : MapAt w kv vv m) (k : Nat) (hk : k < 18446744073709551616) :
  Calls Tryz.prog 20 #[.agg #[kv, vv], .int .u64 (k : Nat)] w fun e w' => e = .returned (.int .u64 ((getL m k : Nat) : Int)) ∧ Below w.heap.size w w' := by
 have HB1 := h_ (show Below w.heap.size w (w.alloc (.cells #[kv, vv] 59)) from bl_ (Below.refl _ _) _)
 have HM := h_ (show Blk (w.alloc (.cells #[kv, vv] 59)) 59 w.heap.size [kv, vv] from Blk.new w _ _)
 have HF := h_ (l1i _ (h.below HB1.out) k hk)
 clear h
 go_enter Tryz.func20, Tryz.ntmps20
 have hb0 := HM.out.lt
 have m0 := HM.out.cell 0
 have m1 := HM.out.cell 1
 simp only [gz_, gs_] at m0 m1
 go_wp2_with fail
 refine (HF.out).mono ?_
 rintro e w2 ⟨rfl, hb⟩
 have HB2 := h_ (bt_ HB1.out hb)
 clear hb HF hb0 m0 m1
 go_wp2_with fail
 go_ret
 exact ⟨rfl, HB2.out⟩
end
section
open Go.RowKit
theorem k1b {P : Program} {o : Oper} {a : Act} {K : Act → World → Prop} {Q : Exit → Act → World → Prop} {wr : World} (s x : Operand) (t : TypeId)
  (ho : o.op = .call { callee := .builtin .append, args := #[s, x], argTypes := #[t, t] })
  (base : Nat) (e : TypeId) (z : Value) (size bytes : Nat) (hel : El P t e z size bytes) (hzs : z.cells.size = size) (hsz : 0 < size)
  (v : Value) (n : Nat) (xs : List Value) (hs : a.eval s = v) (hown : wr.ownsRow base e size v n xs)
  (p : Option Addr) (m c : Nat) (news : List Value) (hx : a.eval x = .slice p m c) (hr : Rds wr size p m news) (hpn : p = none → c = 0) (h1 : ∀ u ∈ news, u.oneCell' = true)
  (hn : n + m ≤ maxLen) (hby : (n + m) * bytes ≤ 140737488355328) (hbase : base ≤ wr.heap.size)
  (h : ∀ v' w', w'.ownsRow base e size v' (n + m) (xs ++ news) → wr.grownBy w' v.ownBlock → Below base wr w' → (∀ k, v'.ownBlock = some k → v.ownBlock = some k ∨ wr.heap.size ≤ k) → K (a.put o.dst v') w') : o.wp P a wr K Q := by
 obtain ⟨ht, hinfo⟩ := hel
 obtain ⟨i, hi, hz0, hz1, hz2⟩ := info_parts hinfo
 have hl := hr.1
 cases p with
 | none =>
  obtain rfl := hpn rfl
  have hm : m = 0 := by
   rcases Nat.eq_zero_or_pos m with h0 | h0
   ·exact h0
   ·obtain ⟨g, off, hp, _⟩ := hr.2 h0; cases hp
  subst hm
  have hnil : news = [] := List.eq_nil_of_length_eq_zero (by simpa using hl)
  subst hnil
  have hrun := run_append_owned_none (P := P) (w := wr) base t o.type e i size ht hi v n xs hown
  have k := h v wr (by simpa using hown) (World.grownBy.refl _ _) (Below.refl _ _) (fun _ hk => .inl hk)
  unfold Oper.wp execOp
  simp only [ho, resolve, invoke, builtin, Sem.run_bind, Sem.run_pure, Result.andThen_ok, List.map_toArray, List.map_cons, List.map_nil, hs, hx, hrun]
  exact k
 | some ad =>
  have hnews : ∀ j u, news[j]? = some u → wr.cell? (ad.add j) = some u := by
   intro j u hj
   have hjm : j < news.length := by
    rcases Nat.lt_or_ge j news.length with h | h
    ·exact h
    ·rw [List.getElem?_eq_none h] at hj; cases hj
   have hm : 0 < m := by
    rcases Nat.eq_zero_or_pos m with h0 | h0
    ·subst h0; omega
    ·exact h0
   obtain ⟨g, off, hp, hc⟩ := hr.2 hm
   injection hp with hp
   subst hp
   rw [addr_add]; exact (hc j (by omega)).trans hj
  obtain ⟨v', w', hrun, h2, h3, _, h5⟩ := run_append_own_at (P := P) wr base t o.type e i z size bytes ht hi hz0 hz1 hz2 hzs hsz v n xs hown ad m c news hl hnews h1 hn hby hbase
  have k := h v' w' h2 h3 ((Below.refl base wr).grown h3 hbase (fun k hk => (hown.lt k hk).1)) (fun k hk => by
   rcases h5 with h5 | h5
   ·exact .inl (h5.symm.trans hk)
   ·right; rw [h5] at hk; cases hk; exact Nat.le_refl _)
  unfold Oper.wp execOp
  simp only [ho, resolve, invoke, builtin, Sem.run_bind, Sem.run_pure, Result.andThen_ok, List.map_toArray, List.map_cons, List.map_nil, hs, hx, hrun]
  exact k
theorem appO {P : Program} {ops : Array Oper} {rest : List Oper} {o : Oper} {a : Act} {Q : Exit → Act → World → Prop} {wr : World} (hgd : o.guard = none) (s x : Operand) (t : TypeId)
  (ho : o.op = .call { callee := .builtin .append, args := #[s, x], argTypes := #[t, t] })
  (base : Nat) (e : TypeId) (z : Value) (size bytes : Nat) (hel : El P t e z size bytes) (hzs : z.cells.size = size) (hsz : 0 < size)
  (v : Value) (n : Nat) (xs : List Value) (hs : a.eval s = v) (hown : wr.ownsRow base e size v n xs)
  (p : Option Addr) (m c : Nat) (news : List Value) (hx : a.eval x = .slice p m c) (hr : Rds wr size p m news) (hpn : p = none → c = 0) (h1 : ∀ u ∈ news, u.oneCell' = true)
  (hn : n + m ≤ maxLen) (hby : (n + m) * bytes ≤ 140737488355328) (hbase : base ≤ wr.heap.size)
  (h : ∀ v' w', w'.ownsRow base e size v' (n + m) (xs ++ news) → wr.grownBy w' v.ownBlock → Below base wr w' → (∀ k, v'.ownBlock = some k → v.ownBlock = some k ∨ wr.heap.size ≤ k) → wpList P ops Q rest (a.put o.dst v') w') :
  wpList P ops Q (o :: rest) a wr :=
 wpList_plain hgd fun _ hK => k1b s x t ho base e z size bytes hel hzs hsz v n xs hs hown p m c news hx hr hpn h1 hn hby hbase fun v' w' h2 h3 h4 h5 => hK _ _ (h v' w' h2 h3 h4 h5)
end
section
open Go.RowKit
theorem q0n : El Tryz.prog 32 26 (.int .u64 0) 1 8 := ⟨Tryz.underlying32, by kernel_rfl⟩
structure Out (W : World) (B : Nat) (kv vv : Value) (ks vs : List Nat) : Prop where
 blk : Blk W 57 B [kv, vv]
 rk : W.ownsRow (B + 1) 26 1 kv ks.length (ks.map u64V)
 rv : W.ownsRow (B + 1) 26 1 vv vs.length (vs.map u64V)
 sep : ∀ k, kv.ownBlock = some k → vv.ownBlock ≠ some k
theorem k0x {w : World} {base : Nat} {e : TypeId} {size : Nat} {v : Value} {n : Nat} {xs : List Value} (h : w.ownsRow base e size v n xs) {k : Nat} (hk : v.ownBlock = some k) : base ≤ k ∧ k < w.heap.size := ⟨by
 rcases h.2 with ⟨rfl, _⟩ | ⟨g, cap, cur, rfl, hb, _⟩
 ·simp [Value.ownBlock] at hk
 ·simp [Value.ownBlock] at hk; omega, by
 rcases h.2 with ⟨rfl, _⟩ | ⟨g, cap, cur, rfl, hb, hg, _⟩
 ·simp [Value.ownBlock] at hk
 ·simp [Value.ownBlock] at hk; subst hk; exact (Array.getElem?_eq_some_iff.1 hg).1⟩
theorem Out.new (w : World) : Out (w.alloc (.cells #[.slice none 0 0, .slice none 0 0] 57)) w.heap.size (.slice none 0 0) (.slice none 0 0) [] [] :=
 ⟨Blk.new w _ _, World.ownsRow_nil _ _ _ _, World.ownsRow_nil _ _ _ _, fun k h => by cases h⟩
theorem Out.drew {W : World} {B : Nat} {kv vv : Value} {ks vs : List Nat} (h : Out W B kv vv ks vs) : Out W.drew B kv vv ks vs := ⟨h.blk, h.rk, h.rv, h.sep⟩
theorem Out.appk {W W' : World} {B : Nat} {kv vv v' : Value} {ks vs news : List Nat} {n : Nat} {xs : List Value} (h : Out W B kv vv ks vs) (ho : W'.ownsRow (B + 1) 26 1 v' n xs) (hn : n = (ks ++ news).length) (hx : xs = (ks ++ news).map u64V)
  (hg : W.grownBy W' kv.ownBlock) (hl : ∀ k, v'.ownBlock = some k → kv.ownBlock = some k ∨ W.heap.size ≤ k) : Out (W'.setCell ⟨B, 0, none⟩ v') B v' vv (ks ++ news) vs := by
 subst hn hx
 refine ⟨(h.blk.kept hg (fun e => ?_)).set 0 v', ownsRow_setCell_below ho (by simp) _, ownsRow_setCell_below (h.rv.kept hg ?_) (by simp) _, fun k hk e => ?_⟩
 ·have := (k0x h.rk e.symm).1; omega
 ·cases hv : vv.ownBlock with
  | none => exact .inl rfl
  | some k => exact .inr (fun e => h.sep k e.symm hv)
 ·rcases hl k hk with h1 | h1
  ·exact h.sep k h1 e
  ·have := (k0x h.rv e).2; omega
theorem Out.appv {W W' : World} {B : Nat} {kv vv v' : Value} {ks vs news : List Nat} {n : Nat} {xs : List Value} (h : Out W B kv vv ks vs) (ho : W'.ownsRow (B + 1) 26 1 v' n xs) (hn : n = (vs ++ news).length) (hx : xs = (vs ++ news).map u64V)
  (hg : W.grownBy W' vv.ownBlock) (hl : ∀ k, v'.ownBlock = some k → vv.ownBlock = some k ∨ W.heap.size ≤ k) : Out (W'.setCell ⟨B, 1, none⟩ v') B kv v' ks (vs ++ news) := by
 subst hn hx
 refine ⟨(h.blk.kept hg (fun e => ?_)).set 1 v', ownsRow_setCell_below (h.rk.kept hg ?_) (by simp) _, ownsRow_setCell_below ho (by simp) _, fun k hk e => ?_⟩
 ·have := (k0x h.rv e.symm).1; omega
 ·cases hv : kv.ownBlock with
  | none => exact .inl rfl
  | some k => exact .inr (fun e => h.sep k hv e.symm)
 ·rcases hl k e with h1 | h1
  ·exact h.sep k hk h1
  ·have := (k0x h.rk hk).2; omega
theorem Rds.take {w : World} {p : Option Addr} {zs : List Nat} (h : Rds w 1 p zs.length (zs.map u64V)) {i : Nat} (hi : i ≤ zs.length) : Rds w 1 p i ((zs.take i).map u64V) := by
 refine ⟨by simp; omega, fun h0 => ?_⟩
 obtain ⟨g, off, hp, hc⟩ := h.2 (by omega)
 refine ⟨g, off, hp, fun j hj => ?_⟩
 rw [hc j (by omega), List.map_take, List.getElem?_take_of_lt (by omega)]
theorem Rds.drop {w : World} {p : Option Addr} {zs : List Nat} (h : Rds w 1 p zs.length (zs.map u64V)) {i c : Nat} (hc : zs.length ≤ c) : Rds w 1 (if c = i then p else Option.map (fun x => x.add i) p) (zs.length - i) ((zs.drop i).map u64V) := by
 refine ⟨by simp, fun h0 => ?_⟩
 obtain ⟨g, off, rfl, hc2⟩ := h.2 (by omega)
 refine ⟨g, off + i, by rw [if_neg (by omega)]; simp [addr_add], fun j hj => ?_⟩
 rw [Nat.add_assoc, hc2 (i + j) (by omega), List.map_drop, List.getElem?_drop]
theorem t0r {p : Option Addr} {i c : Nat} (h : p = none → c = 0) : (if c = i then p else Option.map (fun x => x.add i) p) = none → c - i = 0 := by
 intro e
 by_cases hc : c = i
 ·omega
 ·rw [if_neg hc] at e
  have := h (by simpa using e); omega
theorem m0n {w : World} {base : Nat} {e : TypeId} {size : Nat} {v : Value} {n : Nat} {xs : List Value} (h : w.ownsRow base e size v n xs) : ∃ p k c, v = .slice p k c := by
 obtain ⟨p, c, hv, _⟩ := a0i h
 exact ⟨p, n, c, hv⟩
def Fr (N : Nat) (v : Value) : Prop := ∀ p n c, v = .slice (some p) n c → N ≤ p.block
theorem Fr.nil (N : Nat) : Fr N (.slice none 0 0) := fun p n c e => by cases e
theorem Fr.own {w : World} {base N : Nat} {e : TypeId} {size : Nat} {v : Value} {n : Nat} {xs : List Value} (h : w.ownsRow base e size v n xs) (hN : N ≤ base) : Fr N v := fun p k c hv => by
 obtain ⟨_, ⟨rfl, _⟩ | ⟨g, cap, cur, rfl, hb, _⟩⟩ := h
 ·cases hv
 ·cases hv; exact Nat.le_trans hN hb
theorem RowV.set {w : World} {v : Value} {zs : List Nat} {N b : Nat} (h : RowV w v zs) (hf : Fr N v) (hb : b < N) (j : Nat) (u : Value) : RowV (w.setCell ⟨b, j, none⟩ u) v zs := by
 obtain ⟨p, c, rfl, R, h3⟩ := h
 refine ⟨p, c, rfl, ⟨R.1, fun h0 => ?_⟩, h3⟩
 obtain ⟨g, off, rfl, hc⟩ := R.2 h0
 have := hf _ _ _ rfl
 exact ⟨g, off, rfl, fun k hk => (World.cell?_setCell_far _ _ _ _ (by show b ≠ g; simp only at this; omega)).trans (hc k hk)⟩
theorem MapAt.set {w : World} {kv vv : Value} {m : List (Nat × Nat)} {N b : Nat} (h : MapAt w kv vv m) (hf : Fr N kv) (hg : Fr N vv) (hb : b < N) (j : Nat) (u : Value) : MapAt (w.setCell ⟨b, j, none⟩ u) kv vv m := ⟨h.keys.set hf hb j u, h.vals.set hg hb j u, h.ris, h.len, h.lt⟩
theorem n0r (l : List Nat) : ∀ u ∈ l.map u64V, u.oneCell' = true := fun u hu => by
 obtain ⟨a, _, rfl⟩ := List.mem_map.1 hu; rfl
theorem f1i (w : World) {kv vv : Value} {m : List (Nat × Nat)} (h : MapAt w kv vv m) (k v : Nat) (hk : k < 18446744073709551616) (hv : v < 18446744073709551616) (hn : k ∉ m.map Prod.fst) (hl : m.length < 20000) :
  Calls Tryz.prog 119 #[.agg #[kv, vv], .int .u64 (k : Nat), .int .u64 (v : Nat)] w fun e w' => ∃ kv' vv', e = .returned (.agg #[kv', vv']) ∧ MapAt w' kv' vv' (memI k v m) ∧ Fr w.heap.size kv' ∧ Fr w.heap.size vv' ∧ Below w.heap.size w w' := by
 have HB1 := h_ (show Below w.heap.size w ((w.alloc (.cells #[kv, vv] 57)).alloc (.cells #[.slice none 0 0, .slice none 0 0] 57)) from bl_ (bl_ (Below.refl _ _) _) _)
 have HM := h_ (show Blk ((w.alloc (.cells #[kv, vv] 57)).alloc (.cells #[.slice none 0 0, .slice none 0 0] 57)) 57 w.heap.size [kv, vv] from (Blk.new w _ _).alloc _)
 have HR := h_ (show Blk ((w.alloc (.cells #[kv, vv] 57)).alloc (.cells #[.slice none 0 0, .slice none 0 0] 57)) 57 (w.heap.size + 1) [.slice none 0 0, .slice none 0 0] from by simpa using Blk.new (w.alloc (.cells #[kv, vv] 57)) 57 [.slice none 0 0, .slice none 0 0])
 have HF := h_ (r0q _ (vv := vv) (h.keys.below HB1.out) h.ris (by rw [List.length_map]; exact Nat.le_of_lt hl) k hk)
 have HE := h_ (fun (w' : World) (kv' vv' : Value) (h1 : RowV w' kv' ((m.map Prod.fst).take (lbK k (m.map Prod.fst)) ++ [k] ++ (m.map Prod.fst).drop (lbK k (m.map Prod.fst)))) (h2 : RowV w' vv' ((m.map Prod.snd).take (lbK k (m.map Prod.fst)) ++ [v] ++ (m.map Prod.snd).drop (lbK k (m.map Prod.fst)))) => show MapAt w' kv' vv' (memI k v m) from
  ⟨by unfold memI; simpa using h1, by unfold memI; simpa using h2, x0h h.ris hn, by rw [k0m]; omega, fun p hp => by
   rcases x0i.1 hp with rfl | hp
   ·exact ⟨hk, hv⟩
   ·exact h.lt p hp⟩)
 have HN := h_ (z0p k (m.map Prod.fst))
 have HLN := h_ (show (m.map Prod.fst).length = (m.map Prod.snd).length by simp)
 have HS := h_ (show (m.map Prod.fst).length < 20000 by simpa using hl)
 rw [decide_eq_false hn] at HF
 obtain ⟨p, c, rfl, R, hc, hcm, hpc⟩ := h.keys
 obtain ⟨q, d, rfl, S, hd, hdm, hqd⟩ := h.vals
 have HR1 := h_ (R.below HB1.out)
 have HR2 := h_ (S.below HB1.out)
 clear h R S hn hl
 generalize memI k v m = m' at *
 generalize m.map Prod.fst = ks at *
 generalize m.map Prod.snd = vs at *
 generalize lbK k ks = i at *
 go_enter Tryz.func119, Tryz.ntmps119
 have hb0 := HM.out.lt
 have m0 := HM.out.cell 0
 have m1 := HM.out.cell 1
 simp only [gz_, gs_] at m0 m1
 go_wp2_with fail
 refine (HF.out).mono ?_
 rintro e w2 ⟨rfl, hb⟩
 have HB2 := h_ (bt_ HB1.out hb)
 have HM2 := h_ (HM.out.below hb)
 have HRS := h_ (HR.out.below hb)
 have HR3 := h_ (HR1.out.below hb)
 have HR4 := h_ (HR2.out.below hb)
 clear hb HF hb0 m0 m1 HB1 HM HR HR1 HR2
 have hb0 := HM2.out.lt
 have HO := h_ (Out.new w2)
 have HK := h_ (bl_ (Below.refl w2.heap.size w2) (.cells #[.slice none 0 0, .slice none 0 0] 57))
 have HI1 := h_ (show i ≤ ks.length ∧ i ≤ vs.length from ⟨HN.out, by rw [← HLN.out]; exact HN.out⟩)
 have hi1 : (i : Int) ≤ c := by have := HI1.out.1; omega
 have hi2 : (i : Int) ≤ d := by have := HI1.out.2; omega
 have hi3 : (i : Int) ≤ ks.length := by have := HI1.out.1; omega
 have hi4 : (i : Int) ≤ vs.length := by have := HI1.out.2; omega
 have hc' : (ks.length : Int) ≤ c := by omega
 have hd' : (vs.length : Int) ≤ d := by omega
 have HCD := h_ (show ks.length ≤ c ∧ vs.length ≤ d from ⟨hc, hd⟩)
 have HSV := h_ (show vs.length < 20000 by have := HLN.out; have := HS.out; omega)
 have HNE := h_ (show w.heap.size + 1 < w2.heap.size from HRS.out.lt)
 clear hb0 hc hd
 have hb1 := HO.out.blk.lt
 have o0 := HO.out.blk.cell 0
 have f0 := HO.out.blk.free 0
 have HM3 := h_ (HM2.out.below HK.out)
 have hb0 := HM3.out.lt
 have m0 := HM3.out.cell 0
 have HOD := h_ HO.out.drew
 simp only [gz_, gs_] at m0 o0
 have HT := h_ ((HR3.out.below HK.out).take HI1.out.1)
 have HK1 := h_ (show (([] : List Nat)).length + i ≤ maxLen by have := HI1.out; have := HS.out; have := HSV.out; unfold maxLen; (try simp only [List.length_append, List.length_take, List.length_drop, List.length_cons, List.length_nil]); omega)
 have HK2 := h_ (show ((([] : List Nat)).length + i) * 8 ≤ 140737488355328 by have := HI1.out; have := HS.out; have := HSV.out; (try simp only [List.length_append, List.length_take, List.length_drop, List.length_cons, List.length_nil]); omega)
 have HK3 := h_ (Nat.succ_le_of_lt HO.out.blk.lt)
 go_wp2_with fail
 refine d0c 6 (by kernel_rfl) (by kernel_rfl) ?_
 simp only [List.take_succ_cons, List.take_zero, List.drop_succ_cons, List.drop_zero]
 repeat still_step
 refine wpStill_nil ?_
 refine appO rfl _ _ 32 rfl (w2.heap.size + 1) 26 _ 1 8 q0n rfl (by decide) _ _ _ (by rfl) HOD.out.rk p i c _ (by rfl) HT.out hpc (n0r _) HK1.out HK2.out HK3.out ?_
 intro v' w3 ho hg hb hl
 obtain ⟨p3, N3, c3, hv'⟩ := m0n ho
 subst hv'
 have hA := HOD.out.blk.kept hg (fun e => by have := (k0x HOD.out.rk e.symm).1; omega)
 have a0 := hA.cell 0
 have g0 := hA.free 0
 have l0 := hA.lt
 simp only [gz_, gs_] at a0
 have HO2 := h_ (HOD.out.appk (news := ks.take i) ho (by have := HI1.out; simp; try omega) (by simp) hg (by simpa using hl))
 have HK4 := h_ ((HK.out.drew.trans (hb.mono (Nat.le_succ _))).setCell (p := ⟨w2.heap.size, 0, none⟩) (Nat.le_refl _) (.slice p3 N3 c3))
 clear HO HK ho hg hb hl hA HOD o0 f0 hb1 HK1 HK2 HK3 HT HM3 hb0 m0
 have HO := h_ HO2.out
 have HK := h_ HK4.out
 clear HO2 HK4
 have hb1 := HO.out.blk.lt
 have o0 := HO.out.blk.cell 1
 have f0 := HO.out.blk.free 1
 have HM3 := h_ (HM2.out.below HK.out)
 have hb0 := HM3.out.lt
 have m0 := HM3.out.cell 1
 have HOD := h_ HO.out.drew
 simp only [gz_, gs_] at m0 o0
 have HT := h_ ((HR4.out.below HK.out).take HI1.out.2)
 have HK1 := h_ (show (([] : List Nat)).length + i ≤ maxLen by have := HI1.out; have := HS.out; have := HSV.out; unfold maxLen; (try simp only [List.length_append, List.length_take, List.length_drop, List.length_cons, List.length_nil]); omega)
 have HK2 := h_ (show ((([] : List Nat)).length + i) * 8 ≤ 140737488355328 by have := HI1.out; have := HS.out; have := HSV.out; (try simp only [List.length_append, List.length_take, List.length_drop, List.length_cons, List.length_nil]); omega)
 have HK3 := h_ (Nat.succ_le_of_lt HO.out.blk.lt)
 have l1 := l0
 clear l0
 go_wp2_with fail
 refine d0c 6 (by kernel_rfl) (by kernel_rfl) ?_
 simp only [List.take_succ_cons, List.take_zero, List.drop_succ_cons, List.drop_zero]
 repeat still_step
 refine wpStill_nil ?_
 refine appO rfl _ _ 32 rfl (w2.heap.size + 1) 26 _ 1 8 q0n rfl (by decide) _ _ _ (by rfl) HOD.out.rv q i d _ (by rfl) HT.out hqd (n0r _) HK1.out HK2.out HK3.out ?_
 clear l1
 intro v' w4 ho hg hb hl
 obtain ⟨p4, N4, c4, hv'⟩ := m0n ho
 subst hv'
 have hA := HOD.out.blk.kept hg (fun e => by have := (k0x HOD.out.rv e.symm).1; omega)
 have a0 := hA.cell 1
 have g0 := hA.free 1
 have l0 := hA.lt
 simp only [gz_, gs_] at a0
 have HO2 := h_ (HOD.out.appv (news := vs.take i) ho (by have := HI1.out; simp; try omega) (by simp) hg (by simpa using hl))
 have HK4 := h_ ((HK.out.drew.trans (hb.mono (Nat.le_succ _))).setCell (p := ⟨w2.heap.size, 1, none⟩) (Nat.le_refl _) (.slice p4 N4 c4))
 clear HO HK ho hg hb hl hA HOD o0 f0 hb1 HK1 HK2 HK3 HT HM3 hb0 m0
 have HO := h_ HO2.out
 have HK := h_ HK4.out
 clear HO2 HK4
 have hb1 := HO.out.blk.lt
 have o0 := HO.out.blk.cell 0
 have f0 := HO.out.blk.free 0
 have HOD := h_ HO.out
 simp only [gz_, gs_] at o0
 have HK1 := h_ (show (([] : List Nat) ++ ks.take i).length + 1 ≤ maxLen by have := HI1.out; have := HS.out; have := HSV.out; unfold maxLen; (try simp only [List.length_append, List.length_take, List.length_drop, List.length_cons, List.length_nil]); omega)
 have HK2 := h_ (show ((([] : List Nat) ++ ks.take i).length + 1) * 8 ≤ 140737488355328 by have := HI1.out; have := HS.out; have := HSV.out; (try simp only [List.length_append, List.length_take, List.length_drop, List.length_cons, List.length_nil]); omega)
 have HK3 := h_ (Nat.succ_le_of_lt HO.out.blk.lt)
 have l1 := l0
 clear l0
 go_wp2_with (at_builtin; refine s0b rfl _ _ 32 rfl (w2.heap.size + 1) 26 _ 1 8 q0n rfl (by decide) _ _ _ rfl HOD.out.rk [u64V k] rfl _ rfl (by simp) (by simp [Value.oneCell', u64V]) HK1.out HK2.out HK3.out ?_)
 clear l1
 intro v' w5 ho hg hb hl
 obtain ⟨p5, N5, c5, hv'⟩ := m0n ho
 subst hv'
 have hA := HOD.out.blk.kept hg (fun e => by have := (k0x HOD.out.rk e.symm).1; omega)
 have a0 := hA.cell 0
 have g0 := hA.free 0
 have l0 := hA.lt
 simp only [gz_, gs_] at a0
 have HO2 := h_ (HOD.out.appk (news := [k]) ho (by have := HI1.out; simp; try omega) (by simp) hg (by simpa using hl))
 have HK4 := h_ ((HK.out.trans (hb.mono (Nat.le_succ _))).setCell (p := ⟨w2.heap.size, 0, none⟩) (Nat.le_refl _) (.slice p5 N5 c5))
 clear HO HK ho hg hb hl hA HOD o0 f0 hb1 HK1 HK2 HK3
 have HO := h_ HO2.out
 have HK := h_ HK4.out
 clear HO2 HK4
 have hb1 := HO.out.blk.lt
 have o0 := HO.out.blk.cell 1
 have f0 := HO.out.blk.free 1
 have HOD := h_ HO.out
 simp only [gz_, gs_] at o0
 have HK1 := h_ (show (([] : List Nat) ++ vs.take i).length + 1 ≤ maxLen by have := HI1.out; have := HS.out; have := HSV.out; unfold maxLen; (try simp only [List.length_append, List.length_take, List.length_drop, List.length_cons, List.length_nil]); omega)
 have HK2 := h_ (show ((([] : List Nat) ++ vs.take i).length + 1) * 8 ≤ 140737488355328 by have := HI1.out; have := HS.out; have := HSV.out; (try simp only [List.length_append, List.length_take, List.length_drop, List.length_cons, List.length_nil]); omega)
 have HK3 := h_ (Nat.succ_le_of_lt HO.out.blk.lt)
 have l1 := l0
 clear l0
 go_wp2_with (at_builtin; refine s0b rfl _ _ 32 rfl (w2.heap.size + 1) 26 _ 1 8 q0n rfl (by decide) _ _ _ rfl HOD.out.rv [u64V v] rfl _ rfl (by simp) (by simp [Value.oneCell', u64V]) HK1.out HK2.out HK3.out ?_)
 clear l1
 intro v' w6 ho hg hb hl
 obtain ⟨p6, N6, c6, hv'⟩ := m0n ho
 subst hv'
 have hA := HOD.out.blk.kept hg (fun e => by have := (k0x HOD.out.rv e.symm).1; omega)
 have a0 := hA.cell 1
 have g0 := hA.free 1
 have l0 := hA.lt
 simp only [gz_, gs_] at a0
 have HO2 := h_ (HOD.out.appv (news := [v]) ho (by have := HI1.out; simp; try omega) (by simp) hg (by simpa using hl))
 have HK4 := h_ ((HK.out.trans (hb.mono (Nat.le_succ _))).setCell (p := ⟨w2.heap.size, 1, none⟩) (Nat.le_refl _) (.slice p6 N6 c6))
 clear HO HK ho hg hb hl hA HOD o0 f0 hb1 HK1 HK2 HK3
 have HO := h_ HO2.out
 have HK := h_ HK4.out
 clear HO2 HK4
 have hb1 := HO.out.blk.lt
 have o0 := HO.out.blk.cell 0
 have f0 := HO.out.blk.free 0
 have HM3 := h_ (HM2.out.below HK.out)
 have hb0 := HM3.out.lt
 have m0 := HM3.out.cell 0
 have HOD := h_ HO.out.drew
 simp only [gz_, gs_] at m0 o0
 have HT := h_ ((HR3.out.below HK.out).drop (i := i) HCD.out.1)
 have HK1 := h_ (show (([] : List Nat) ++ ks.take i ++ [k]).length + (ks.length - i) ≤ maxLen by have := HI1.out; have := HS.out; have := HSV.out; unfold maxLen; (try simp only [List.length_append, List.length_take, List.length_drop, List.length_cons, List.length_nil]); omega)
 have HK2 := h_ (show ((([] : List Nat) ++ ks.take i ++ [k]).length + (ks.length - i)) * 8 ≤ 140737488355328 by have := HI1.out; have := HS.out; have := HSV.out; (try simp only [List.length_append, List.length_take, List.length_drop, List.length_cons, List.length_nil]); omega)
 have HK3 := h_ (Nat.succ_le_of_lt HO.out.blk.lt)
 have l1 := l0
 clear l0
 go_wp2_with fail
 refine d0c 6 (by kernel_rfl) (by kernel_rfl) ?_
 simp only [List.take_succ_cons, List.take_zero, List.drop_succ_cons, List.drop_zero]
 repeat still_step
 refine wpStill_nil ?_
 have HPN := h_ (t0r (i := i) hpc)
 generalize (if c = i then p else Option.map (fun x => x.add i) p) = rp at HT HPN ⊢
 refine appO rfl _ _ 32 rfl (w2.heap.size + 1) 26 _ 1 8 q0n rfl (by decide) _ _ _ (by rfl) HOD.out.rk _ (ks.length - i) (c - i) _ (by rfl) HT.out HPN.out (n0r _) HK1.out HK2.out HK3.out ?_
 clear l1
 intro v' w7 ho hg hb hl
 obtain ⟨p7, N7, c7, hv'⟩ := m0n ho
 subst hv'
 have hA := HOD.out.blk.kept hg (fun e => by have := (k0x HOD.out.rk e.symm).1; omega)
 have a0 := hA.cell 0
 have g0 := hA.free 0
 have l0 := hA.lt
 simp only [gz_, gs_] at a0
 have HO2 := h_ (HOD.out.appk (news := ks.drop i) ho (by have := HI1.out; simp; try omega) (by simp) hg (by simpa using hl))
 have HK4 := h_ ((HK.out.drew.trans (hb.mono (Nat.le_succ _))).setCell (p := ⟨w2.heap.size, 0, none⟩) (Nat.le_refl _) (.slice p7 N7 c7))
 clear HO HK ho hg hb hl hA HOD o0 f0 hb1 HK1 HK2 HK3 HT HM3 hb0 m0
 have HO := h_ HO2.out
 have HK := h_ HK4.out
 clear HO2 HK4
 have hb1 := HO.out.blk.lt
 have o0 := HO.out.blk.cell 1
 have f0 := HO.out.blk.free 1
 have HM3 := h_ (HM2.out.below HK.out)
 have hb0 := HM3.out.lt
 have m0 := HM3.out.cell 1
 have HOD := h_ HO.out.drew
 simp only [gz_, gs_] at m0 o0
 have HT := h_ ((HR4.out.below HK.out).drop (i := i) HCD.out.2)
 have HK1 := h_ (show (([] : List Nat) ++ vs.take i ++ [v]).length + (vs.length - i) ≤ maxLen by have := HI1.out; have := HS.out; have := HSV.out; unfold maxLen; (try simp only [List.length_append, List.length_take, List.length_drop, List.length_cons, List.length_nil]); omega)
 have HK2 := h_ (show ((([] : List Nat) ++ vs.take i ++ [v]).length + (vs.length - i)) * 8 ≤ 140737488355328 by have := HI1.out; have := HS.out; have := HSV.out; (try simp only [List.length_append, List.length_take, List.length_drop, List.length_cons, List.length_nil]); omega)
 have HK3 := h_ (Nat.succ_le_of_lt HO.out.blk.lt)
 have l1 := l0
 clear l0
 go_wp2_with fail
 refine d0c 6 (by kernel_rfl) (by kernel_rfl) ?_
 simp only [List.take_succ_cons, List.take_zero, List.drop_succ_cons, List.drop_zero]
 repeat still_step
 refine wpStill_nil ?_
 have HPN := h_ (t0r (i := i) hqd)
 generalize (if d = i then q else Option.map (fun x => x.add i) q) = rp at HT HPN ⊢
 refine appO rfl _ _ 32 rfl (w2.heap.size + 1) 26 _ 1 8 q0n rfl (by decide) _ _ _ (by rfl) HOD.out.rv _ (vs.length - i) (d - i) _ (by rfl) HT.out HPN.out (n0r _) HK1.out HK2.out HK3.out ?_
 clear l1
 intro v' w8 ho hg hb hl
 obtain ⟨p8, N8, c8, hv'⟩ := m0n ho
 subst hv'
 have hA := HOD.out.blk.kept hg (fun e => by have := (k0x HOD.out.rv e.symm).1; omega)
 have a0 := hA.cell 1
 have g0 := hA.free 1
 have l0 := hA.lt
 simp only [gz_, gs_] at a0
 have HO2 := h_ (HOD.out.appv (news := vs.drop i) ho (by have := HI1.out; simp; try omega) (by simp) hg (by simpa using hl))
 have HK4 := h_ ((HK.out.drew.trans (hb.mono (Nat.le_succ _))).setCell (p := ⟨w2.heap.size, 1, none⟩) (Nat.le_refl _) (.slice p8 N8 c8))
 clear HO HK ho hg hb hl hA HOD o0 f0 hb1 HK1 HK2 HK3 HT HM3 hb0 m0
 have HO := h_ HO2.out
 have HK := h_ HK4.out
 clear HO2 HK4
 have o0 := HO.out.blk.cell 0
 have o1 := HO.out.blk.cell 1
 have HRZ := h_ (HRS.out.below HK.out)
 have r0 := HRZ.out.cell 0
 have r1 := HRZ.out.cell 1
 have r2 := HRZ.out.free 0
 have r3 := HRZ.out.free 1
 have r4 := HRZ.out.lt
 have r5 := HO.out.blk.lt
 simp only [gz_, gs_] at o0 o1 r0 r1
 have HBF := h_ (bt_ HB2.out HK.out)
 have HFN := h_ (Blk.set (HRZ.out.set 0 (.slice p7 N7 c7)) 1 (.slice p8 N8 c8))
 have HRK := h_ (RowV.own (ownsRow_setCell_below (ownsRow_setCell_below HO.out.rk (a := ⟨w.heap.size + 1, 0, none⟩) (by have := HNE.out; show w.heap.size + 1 < _; omega) (.slice p7 N7 c7)) (a := ⟨w.heap.size + 1, 1, none⟩) (by have := HNE.out; show w.heap.size + 1 < _; omega) (.slice p8 N8 c8)) rfl rfl)
 have HRV := h_ (RowV.own (ownsRow_setCell_below (ownsRow_setCell_below HO.out.rv (a := ⟨w.heap.size + 1, 0, none⟩) (by have := HNE.out; show w.heap.size + 1 < _; omega) (.slice p7 N7 c7)) (a := ⟨w.heap.size + 1, 1, none⟩) (by have := HNE.out; show w.heap.size + 1 < _; omega) (.slice p8 N8 c8)) rfl rfl)
 have HF1 := h_ (Fr.own HO.out.rk (N := w.heap.size) (by have := HNE.out; omega))
 have HF2 := h_ (Fr.own HO.out.rv (N := w.heap.size) (by have := HNE.out; omega))
 clear HO HK HRZ l0
 go_wp2_with fail
 refine bodyPost_ret (results_cell_row rfl _ _ (w.heap.size + 1) 57 #[.slice p7 N7 c7, .slice p8 N8 c8] (0, 0) _ rfl HFN.out Tryz.underlying57 rfl (by kernel_rfl)) rfl ⟨_, _, rfl, HE.out _ _ _ HRK.out HRV.out, HF1.out, HF2.out, ?_⟩
 exact (HBF.out.setCell (Nat.le_succ _) _).setCell (Nat.le_succ _) _
end
end Go.Proofs.YtmnojnopejhebaaGreat
