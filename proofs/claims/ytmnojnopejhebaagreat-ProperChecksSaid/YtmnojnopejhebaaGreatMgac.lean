/- The contract of Tokens. -/
import Derived.Test.YtmnojnopejhebaaGreatMgaa
import Derived.Test.YtmnojnopejhebaaGreatMgab
import Derived.Laws.Rows
import Derived.Deep.AppendLies
import Derived.Deep.RegionHeldLaw
import Derived.RegionTactic
namespace Go.Proofs.YtmnojnopejhebaaGreat
set_option linter.unusedVariables false
set_option linter.unusedSimpArgs false
set_option maxRecDepth 100000
set_option maxHeartbeats 25600000
section
open Go.RowKit
theorem n0u {P : Program} {ops : Array Oper} {rest : List Oper} {o : Oper} {a : Act} {Q : Exit → Act → World → Prop} {wr : World} (hgd : o.guard = none) (s x : Operand) (t : TypeId)
  (ho : o.op = .call { callee := .builtin .append, args := #[s, x], argTypes := #[t, t] })
  (base : Nat) (e : TypeId) (z : Value) (size bytes : Nat) (hel : El P t e z size bytes) (hzs : z.cells.size = size) (hsz : 0 < size)
  (v : Value) (n : Nat) (xs : List Value) (hs : a.eval s = v) (hown : wr.ownsRow base e size v n xs)
  (us : List Value) (hus : us.length = size) (g : Nat) (hx : a.eval x = .slice (some ⟨g, 0, none⟩) 1 1) (hg : g = wr.heap.size) (h1 : ∀ u ∈ us, u.oneCell' = true)
  (hn : n + 1 ≤ maxLen) (hby : (n + 1) * bytes ≤ 140737488355328) (hbase : base ≤ wr.heap.size)
  (h : ∀ v' w', w'.ownsRow base e size v' (n + 1) (xs ++ us) → wr.grownBy w' v.ownBlock → Below base wr w' → wpList P ops Q rest (a.put o.dst v') w') :
  wpList P ops Q (o :: rest) a (wr.alloc (.cells us.toArray e)) := by
 subst hg
 obtain ⟨ht, hinfo⟩ := hel
 obtain ⟨i, hi, hz0, hz1, hz2⟩ := info_parts hinfo
 refine wpList_append_own (wr.alloc (.cells us.toArray e)) hgd s x t ho base e i z size bytes ht hi hz0 hz1 hz2 hzs hsz v n xs hs (hown.alloc _) ⟨wr.heap.size, 0, none⟩ 1 1 us hx (by omega) ?_ h1 hn hby (by simp; omega) ?_
 ·intro j u' hj
  have hc : (wr.alloc (.cells us.toArray e)).cell? ⟨wr.heap.size, j, none⟩ = us[j]? := by
   rw [cell_of_row _ _ j _ _ _ (heap_alloc_new wr _)]; simp
  rw [addr_add, Nat.zero_add]; exact hc.trans hj
 ·intro v' w' hown' hg _
  have hg' : wr.grownBy w' v.ownBlock := ⟨hg.os, hg.tape, hg.output, Nat.le_trans (by simp) hg.size, fun k hk hne => (hg.block k (by simp; omega) hne).trans (Below.heap_alloc wr _ k hk)⟩
  exact h v' w' hown' hg' ((Below.refl base wr).grown hg' hbase (fun k hk => (hown.lt k hk).1))
theorem k1u {P : Program} {ops : Array Oper} {rest : List Oper} {o : Oper} {a : Act} {Q : Exit → Act → World → Prop} {wr : World} (hgd : o.guard = none) (s x : Operand) (t : TypeId)
  (ho : o.op = .call { callee := .builtin .append, args := #[s, x], argTypes := #[t, t] })
  (base : Nat) (e : TypeId) (z : Value) (size bytes : Nat) (hel : El P t e z size bytes) (hzs : z.cells.size = size) (hsz : 0 < size)
  (v : Value) (n : Nat) (xs : List Value) (hs : a.eval s = v) (hown : wr.ownsRow base e size v n xs)
  (us : List Value) (hus : us.length = size) (g : Nat) (hx : a.eval x = .slice (some ⟨g, 0, none⟩) 1 1) (hg : g = wr.heap.size) (h1 : ∀ u ∈ us, u.oneCell' = true)
  (hn : n + 1 ≤ maxLen) (hby : (n + 1) * bytes ≤ 140737488355328) (hbase : base ≤ wr.heap.size)
  (h : ∀ v' w', w'.ownsRow base e size v' (n + 1) (xs ++ us) → wr.grownBy w' v.ownBlock → Below base wr w' → (∀ k, v'.ownBlock = some k → v.ownBlock = some k ∨ wr.heap.size ≤ k) → wpList P ops Q rest (a.put o.dst v') w') :
  wpList P ops Q (o :: rest) a (wr.alloc (.cells us.toArray e)) := by
 subst hg
 obtain ⟨ht, hinfo⟩ := hel
 obtain ⟨i, hi, hz0, hz1, hz2⟩ := info_parts hinfo
 refine wpList_plain hgd fun _ hK => wp_append_lies (wr.alloc (.cells us.toArray e)) s x t ho base e i z size bytes ht hi hz0 hz1 hz2 hzs hsz v n xs hs (hown.alloc _) ⟨wr.heap.size, 0, none⟩ 1 1 us hx (by omega) ?_ h1 (by decide) hn hby (by simp; omega) _ rfl ?_
 ·intro j u' hj
  have hc : (wr.alloc (.cells us.toArray e)).cell? ⟨wr.heap.size, j, none⟩ = us[j]? := by
   rw [cell_of_row _ _ j _ _ _ (heap_alloc_new wr _)]; simp
  rw [addr_add, Nat.zero_add]; exact hc.trans hj
 ·intro g cap w' hown' hg hlie hlt
  have hg' : wr.grownBy w' v.ownBlock := ⟨hg.os, hg.tape, hg.output, Nat.le_trans (by simp) hg.size, fun k hk hne => (hg.block k (by simp; omega) hne).trans (Below.heap_alloc wr _ k hk)⟩
  refine hK _ _ (h _ w' hown' hg' ((Below.refl base wr).grown hg' hbase (fun k hk => (hown.lt k hk).1)) fun k hk => ?_)
  have hk' : g = k := by simpa [Value.ownBlock] using hk
  subst hk'
  rcases hlie with h2 | h2
  ·exact .inl h2
  ·right; rw [h2]; simp
theorem y0y {P : Program} {ops : Array Oper} {o : Oper} {a : Act} {K : Act → World → Prop} {Q : Exit → Act → World → Prop} {E : Prop} {wr : World} (hgd : o.guard = none) (s x : Operand) (t : TypeId)
  (ho : o.op = .call { callee := .builtin .append, args := #[s, x], argTypes := #[t, t] })
  (base : Nat) (e : TypeId) (z : Value) (size bytes : Nat) (hel : El P t e z size bytes) (hzs : z.cells.size = size) (hsz : 0 < size)
  (v : Value) (n : Nat) (xs : List Value) (hs : a.eval s = v) (hown : wr.ownsRow base e size v n xs)
  (us : List Value) (hus : us.length = size) (g : Nat) (hx : a.eval x = .slice (some ⟨g, 0, none⟩) 1 1) (hg : g = wr.heap.size) (h1 : ∀ u ∈ us, u.oneCell' = true)
  (hn : n + 1 ≤ maxLen) (hby : (n + 1) * bytes ≤ 140737488355328) (hbase : base ≤ wr.heap.size)
  (h : ∀ v' w', w'.ownsRow base e size v' (n + 1) (xs ++ us) → wr.grownBy w' v.ownBlock → Below base wr w' → K (a.put o.dst v') w') :
  if Region.wanted o (yielded ops a.tmps) = true then Oper.wp P o a (wr.alloc (.cells us.toArray e)) K Q else E := by
 have hw : Region.wanted o (yielded ops a.tmps) = true := by simp [Region.wanted, hgd]
 rw [if_pos hw]
 subst hg
 obtain ⟨ht, hinfo⟩ := hel
 obtain ⟨i, hi, hz0, hz1, hz2⟩ := info_parts hinfo
 refine wp_append_own (wr.alloc (.cells us.toArray e)) s x t ho base e i z size bytes ht hi hz0 hz1 hz2 hzs hsz v n xs hs (hown.alloc _) ⟨wr.heap.size, 0, none⟩ 1 1 us hx (by omega) ?_ h1 hn hby (by simp; omega) ?_
 ·intro j u' hj
  have hc : (wr.alloc (.cells us.toArray e)).cell? ⟨wr.heap.size, j, none⟩ = us[j]? := by
   rw [cell_of_row _ _ j _ _ _ (heap_alloc_new wr _)]; simp
  rw [addr_add, Nat.zero_add]; exact hc.trans hj
 ·intro v' w' hown' hg _
  have hg' : wr.grownBy w' v.ownBlock := ⟨hg.os, hg.tape, hg.output, Nat.le_trans (by simp) hg.size, fun k hk hne => (hg.block k (by simp; omega) hne).trans (Below.heap_alloc wr _ k hk)⟩
  exact h v' w' hown' hg' ((Below.refl base wr).grown hg' hbase (fun k hk => (hown.lt k hk).1))
theorem a0z {w : World} {base : Nat} {e : TypeId} {size : Nat} {v : Value} {n : Nat} {xs : List Value} (h : w.ownsRow base e size v n xs) : ∃ p c, v = .slice p n c ∧ (p = none → c = 0) := by
 obtain ⟨_, ⟨rfl, rfl⟩ | ⟨g, cap, cur, rfl, _⟩⟩ := h
 ·exact ⟨_, _, rfl, fun _ => rfl⟩
 ·exact ⟨_, _, rfl, fun h => by cases h⟩
theorem own_below {w w' : World} {base : Nat} {e : TypeId} {size : Nat} {v : Value} {n : Nat} {xs : List Value} (h : w.ownsRow base e size v n xs) (hb : Below w.heap.size w w') : w'.ownsRow base e size v n xs := by
 refine h.kept (below_grown hb none) ?_
 cases hv : v.ownBlock with
 | none => exact .inl rfl
 | some k => exact .inr (by simp)
end
section
open Go.RowKit
theorem q0y : El Tryz.prog 141 147 (.agg #[.int .i64 0, .string ⟨#[]⟩, .int .i64 0]) 3 32 := ⟨Tryz.underlying141, by kernel_rfl⟩
theorem l0c {P : Program} {fn : Func} {u p : Tmp} {ty : TypeId} (h : fn.results = #[.tmp u, .cell p ty]) (tmps : Array Value) (w : World) (g : Nat) (t : TypeId) (cs : Array Value) (fr : Nat × Nat) (d : TypeDesc)
  (hp : tmps.getD p undef = .pointer (some ⟨g, 0, none⟩)) (hg : w.heap[g]? = some (.cells cs t fr))
  (hu : P.underlying ty = some d) (hd : (match d with | .struct _ | .array _ _ => true | _ => false) = true) (hi : (P.info? ty).map (·.size) = some cs.size) :
  (results fn tmps).run P w = .ok (.tuple #[tmps.getD u undef, .agg cs]) w := by
 simp only [results, h]
 have hp' : tmps[p]?.getD undef = .pointer (some ⟨g, 0, none⟩) := by simpa using hp
 simp [hp', asAddr, run_loadVar_row w g t ty cs fr d hg hu hd hi]
def j0g (s : ByteArray) (at_ : Nat) (w : World) (i : Nat) (v : Value) (acc : List (Nat × Nat × Nat)) (wr : World) : Prop :=
 acc.length ≤ i ∧ b0j s i acc = b0j s 0 [] ∧ wr.ownsRow (w.heap.size + 2) 147 3 v acc.length (h0g s at_ acc) ∧ Blk wr 114 w.heap.size [.string s, .int .i64 at_] ∧
 Blk wr 41 (w.heap.size + 1) [.int .i64 0, .int .i64 0] ∧ Below w.heap.size w wr
section
variable {s : ByteArray} {at_ : Nat} {w wr w' : World} {i n k : Nat} {v v' : Value} {acc : List (Nat × Nat × Nat)}
theorem j0g.below (h : j0g s at_ w i v acc wr) (hb : Below wr.heap.size wr w') : j0g s at_ w i v acc w' := by
 obtain ⟨h1, h2, h3, h4, h5, h6⟩ := h
 exact ⟨h1, h2, own_below h3 hb, h4.below hb, h5.below hb, bt_ h6 hb⟩
theorem j0g.skip (h : j0g s at_ w i v acc wr) (hi : i < s.size) (hb : c0p (bt s i) = true) : j0g s at_ w (i + 1) v acc wr := by
 obtain ⟨h1, h2, h3⟩ := h
 exact ⟨by omega, by rw [← h2, y0t hi hb], h3⟩
theorem j0g.add {c : Nat} (h : j0g s at_ w i v acc wr) (hi : i < s.size) (hs : e0g s i = (k, n, c)) (hk : k = 1 ∨ k = 2 ∨ k = 3) (hn : i < n)
  (ho : w'.ownsRow (w.heap.size + 2) 147 3 v' (acc.length + 1) (h0g s at_ acc ++ [.int .i64 (k : Nat), .string (s.extract i n), .int .i64 ((at_ : Int) + (i : Nat))])) (hb : Below (w.heap.size + 2) wr w') : j0g s at_ w n v' (acc ++ [(k, i, n)]) w' := by
 obtain ⟨h1, h2, h3, h4, h5, h6⟩ := h
 exact ⟨by simp; omega, by rw [← h2, c1e hi hs hk hn], by rw [l0q, List.length_append]; exact ho, h4.belowB hb (by omega), h5.belowB hb (by omega), h6.trans (hb.mono (by omega))⟩
theorem j0g.size (h : j0g s at_ w i v acc wr) : w.heap.size + 2 ≤ wr.heap.size := by have := h.2.2.2.2.1.lt; omega
end
def g1m (s : ByteArray) (at_ : Nat) (w : World) (e : Ending) (w' : World) : Prop :=
 ∃ v, e = .returned (.tuple #[v, .agg #[.int .i64 ((b0j s 0 []).2.1 : Nat), .int .i64 (g0r at_ (b0j s 0 []))]]) ∧ w'.ownsRow w.heap.size 147 3 v (b0j s 0 []).1.length (h0g s at_ (b0j s 0 []).1) ∧ Below w.heap.size w w'
theorem j0b {B : Nat} (w : World) : Below B w w.drew := bd_ (Below.refl B w) 1
theorem m0m {s : ByteArray} {at_ : Nat} {w W : World} {a b : Int} {x y : Value} {A : Act} {v : Value} (hd : A.defers = []) (h2 : A.tmps.getD 2 undef = v) (h3 : A.tmps.getD 3 undef = .pointer (some ⟨w.heap.size + 1, 0, none⟩))
  (HP : Blk W 41 (w.heap.size + 1) [x, y]) (HB : Below w.heap.size w W)
  (ho : W.ownsRow (w.heap.size + 2) 147 3 v (b0j s 0 []).1.length (h0g s at_ (b0j s 0 []).1)) (ha : a = ((b0j s 0 []).2.1 : Nat)) (hb : b = g0r at_ (b0j s 0 [])) :
  bodyPost Tryz.prog Tryz.f89 (g1m s at_ w) .ret A ((W.setCell ⟨w.heap.size + 1, 0, none⟩ (.int .i64 a)).setCell ⟨w.heap.size + 1, 1, none⟩ (.int .i64 b)) := by
 subst ha hb h2
 have hq := ((HP.set 0 (.int .i64 ((b0j s 0 []).2.1 : Nat))).set 1 (.int .i64 (g0r at_ (b0j s 0 []))))
 refine bodyPost_ret (l0c rfl _ _ (w.heap.size + 1) 41 #[.int .i64 ((b0j s 0 []).2.1 : Nat), .int .i64 (g0r at_ (b0j s 0 []))] (0, 0) _ h3 hq Tryz.underlying41 rfl (by kernel_rfl)) hd ⟨A.tmps.getD 2 undef, rfl, ?_, ?_⟩
 ·exact n0k (ownsRow_setCell_below (ownsRow_setCell_below ho (by simp) _) (by simp) _) (by omega)
 ·exact (HB.setCell (by simp) _).setCell (by simp) _
theorem q0i (s : ByteArray) (at_ : Nat) (w : World) (hs : s.size ≤ 1048576) (hat : at_ ≤ 1099511627776) :
  Calls Tryz.prog 89 #[.agg #[.string s, .int .i64 at_]] w (g1m s at_ w) := by
 have H0 := h_ (show j0g s at_ w 0 (.slice none 0 0) [] ((w.alloc (.cells #[.string s, .int .i64 at_] 114)).alloc (.cells #[.int .i64 0, .int .i64 0] 41)) from
  ⟨Nat.le_refl _, rfl, World.ownsRow_nil _ _ _ _, (Blk.new w 114 [.string s, .int .i64 at_]).alloc _, by simpa using Blk.new (w.alloc (.cells #[.string s, .int .i64 at_] 114)) 41 [.int .i64 0, .int .i64 0], bl_ (bl_ (Below.refl _ _) _) _⟩)
 go_enter Tryz.func89, Tryz.ntmps89
 go_wp2_with fail
 obtain ⟨w1, hw1⟩ : ∃ w1, w1 = (w.alloc (.cells #[.string s, .int .i64 at_] 114)).alloc (.cells #[.int .i64 0, .int .i64 0] 41) := ⟨_, rfl⟩
 rw [← hw1] at H0 ⊢
 clear hw1
 go_loopw [4, 5] (fun v i wr => ∃ (k : Nat) (acc : List (Nat × Nat × Nat)), k ≤ s.size ∧ i = .int .i64 k ∧ j0g s at_ w k v acc wr) (fun _ i _ => s.size - (intOf i).toNat)
 case atStart => exact ⟨0, [], by omega, rfl, H0.out⟩
 case round =>
  clear H0
  obtain ⟨i, acc, hi, rfl, hI⟩ := hrel
  obtain ⟨wo, rfl⟩ : ∃ wo : World, wo = wr := ⟨_, rfl⟩
  have HI := h_ hI
  have hc0 := hI.2.2.2.1.cell 0
  have hc1 := hI.2.2.2.1.cell 1
  have hzz : w.heap.size + 2 ≤ wo.heap.size := hI.size
  have HO := h_ hI.2.2.1
  obtain ⟨p, c, rfl, _⟩ := a0z hI.2.2.1
  have hacc : acc.length ≤ i := hI.1
  clear hI
  by_cases hlt : i < s.size
  ·have HB := h_ (l0e hlt)
   cases hb : c0p (s[i].toNat : Int)
   ·have HSE := h_ (show (s.extract i s.size).size = s.size - i from by simp)
    have HBF := h_ (show c0p (bt s i) = false from by rw [HB.out]; exact hb)
    by_cases hn : 0 < i0m (s.extract i s.size)
    ·have HST := h_ (y0z HBF.out hn)
     have hle : i0m (s.extract i s.size) ≤ s.size - i := by have := g1y (t := s.extract i s.size) (by rw [HSE.out]; omega); rw [HSE.out] at this; exact this
     have HSC := h_ (fun w1 => x0g (s.extract i s.size) w1 (by rw [HSE.out]; omega) (by rw [HSE.out]; omega))
     generalize i0m (s.extract i s.size) = n at *
     have hwi : IntKind.i64.wrap ((at_ : Int) + (i : Int)) = (at_ : Int) + (i : Int) := IntWalk.i64_in _ (by omega)
     obtain ⟨m, hm⟩ : ∃ m, m = i + n := ⟨_, rfl⟩
     have HM := h_ hm
     have hwn : IntKind.i64.wrap ((i : Int) + (n : Int)) = (m : Int) := (IntWalk.i64_in _ (by omega)).trans (by omega)
     have hz1 : (m : Int) ≤ s.size := by omega
     have hz2 : (i : Int) ≤ m := by omega
     rw [← hm] at HST
     clear hm
     go_wp2_with (first | (go_at_call 84; refine (b0w _ _).mono ?_; rintro e w' ⟨rfl, rfl⟩) | (go_at_call 124; refine (HSC.out _).mono ?_; rintro e w' ⟨rfl, rfl⟩))
     have hk0 : wo.cell? ⟨w.heap.size, 0, none⟩ = some (.string s) := hc0
     have hk1 : wo.cell? ⟨w.heap.size, 1, none⟩ = some (.int .i64 (at_ : Int)) := hc1
     have HOD := h_ (World.ownsRow.drew HO.out)
     have m1 : acc.length + 1 ≤ maxLen := by unfold maxLen; omega
     have m2 : (acc.length + 1) * 32 ≤ 140737488355328 := by omega
     have m3 : w.heap.size + 2 ≤ wo.drew.heap.size := hzz
     go_region_held_law (fun w' => w'.cell? ⟨w.heap.size, 0, none⟩ = some (.string s) ∧ w'.cell? ⟨w.heap.size, 1, none⟩ = some (.int .i64 (at_ : Int)))
      (first | exact ⟨hk0, hk1⟩ | exact ⟨b0t hk0 _, b0t hk1 _⟩ | exact ⟨(hb'.cell (p := ⟨w.heap.size, 0, none⟩) (by simp)).trans hk0, (hb'.cell (p := ⟨w.heap.size, 1, none⟩) (by simp)).trans hk1⟩)
      (first | (refine y0y rfl _ _ 141 rfl (w.heap.size + 2) 147 _ 3 32 q0y rfl (by decide) _ _ _ rfl HOD.out [.int .i64 (3 : Nat), .string (s.extract i m), .int .i64 ((at_ : Int) + (i : Nat))] rfl _ rfl rfl (by simp [Value.oneCell']) m1 m2 m3 ?_; intro v' w' ho' hg' hb'))
     have HI2 := h_ (HI.out.add hlt HST.out (Or.inr (Or.inr rfl)) (by have := HM.out; omega) ho' ((j0b wo).trans hb'))
     clear ho' hg' hb' HI HO
     go_wp2
     go_roundw
     case rel => exact ⟨m, _, by omega, by have := HM.out; go_num, HI2.out⟩
     case measure => simp [intOf]; have := HM.out; omega
    ·have hn0 : i0m (s.extract i s.size) = 0 := by omega
     have HSC := h_ (fun w1 => x0g (s.extract i s.size) w1 (by rw [HSE.out]; omega) (by rw [HSE.out]; omega))
     rw [hn0] at HSC
     have HP := h_ HI.out.2.2.2.2.1
     have HW := h_ HI.out.2.2.2.2.2
     have HF := h_ HI.out.2.1
     have hwi : IntKind.i64.wrap ((at_ : Int) + (i : Int)) = (at_ : Int) + (i : Int) := IntWalk.i64_in _ (by omega)
     cases hl : e0x (s[i].toNat : Int)
     ·have HST := h_ (z0a HBF.out hn0 (by rw [HB.out]; exact hl))
      clear hn hn0 HI HO
      go_wp2_with (first | (go_at_call 84; refine (b0w _ _).mono ?_; rintro e w' ⟨rfl, rfl⟩) | (go_at_call 124; refine (HSC.out _).mono ?_; rintro e w' ⟨rfl, rfl⟩) | (go_at_call 121; refine (g0h _ _).mono ?_; rintro e w' ⟨rfl, rfl⟩))
      refine g0e 6 (by kernel_rfl) (by kernel_rfl) ?_
      simp only [List.take_succ_cons, List.take_zero, List.drop_succ_cons, List.drop_zero]
      repeat still_step
      refine wpStill_nil ?_
      have hq0 := HP.out.cell 0
      have hq1 := HP.out.cell 1
      have hf0 := HP.out.free 0
      have hf1 := HP.out.free 1
      go_wp2
      refine m0m (W := wo.drew) rfl rfl rfl HP.out (HW.out.trans (j0b wo)) ?_ ?_ ?_
      ·rw [← HF.out, c0y hlt HST.out]; exact World.ownsRow_nil _ _ _ _
      ·rw [← HF.out, c0y hlt HST.out]; rfl
      ·rw [← HF.out, c0y hlt HST.out]; rfl
     ·have HLT := h_ (show e0x (bt s i) = true from by rw [HB.out]; exact hl)
      clear HP HW HF
      go_wp2_with (first | (go_at_call 84; refine (b0w _ _).mono ?_; rintro e w' ⟨rfl, rfl⟩) | (go_at_call 124; refine (HSC.out _).mono ?_; rintro e w' ⟨rfl, rfl⟩) | (go_at_call 121; refine (g0h _ _).mono ?_; rintro e w' ⟨rfl, rfl⟩))
      go_loop [8] (fun j => ∃ k : Nat, i ≤ k ∧ k ≤ s.size ∧ j = .int .i64 k ∧ scan (k0a s) s.size k = c0t s i) (fun j => s.size - (intOf j).toNat)
      case atStart => exact ⟨i, by omega, hi, rfl, rfl⟩
      case round =>
       obtain ⟨k, hik, hks, rfl, hsc⟩ := hrel
       have HS := h_ hsc
       clear hsc
       by_cases hklt : k < s.size
       ·have HBK := h_ (l0e hklt)
        cases hlk : e0x (s[k].toNat : Int)
        ·have HE := h_ (show c0t s i = k from by rw [← HS.out]; exact h0h hklt (by unfold k0a; rw [HBK.out, hlk]; rfl))
         go_wp2_with (go_at_call 121; refine (g0h _ _).mono ?_; rintro e w' ⟨rfl, rfl⟩)
         have hik0 : i < k := by rw [← HE.out]; exact x0c hlt HLT.out
         have hz1 : (k : Int) ≤ s.size := by omega
         have hz2 : (i : Int) ≤ k := by omega
         have hk0 : wo.cell? ⟨w.heap.size, 0, none⟩ = some (.string s) := hc0
         have hk1 : wo.cell? ⟨w.heap.size, 1, none⟩ = some (.int .i64 (at_ : Int)) := hc1
         go_region_held_law (fun w' => w'.cell? ⟨w.heap.size, 0, none⟩ = some (.string s) ∧ w'.cell? ⟨w.heap.size, 1, none⟩ = some (.int .i64 (at_ : Int)))
          (first | exact ⟨hk0, hk1⟩ | exact ⟨b0t hk0 _, b0t hk1 _⟩)
          (fail)
         clear hk0 hk1 HO hc0 hc1
         have HBW := h_ (show Below wo.heap.size wo ((wo.alloc (.cells #[.int .i64 1, .string (s.extract i k), .int .i64 ((at_ : Int) + (i : Int))] 147)).drew) from bd_ (bl_ (Below.refl _ _) _) 1)
         have HT := h_ (show Blk ((wo.alloc (.cells #[.int .i64 1, .string (s.extract i k), .int .i64 ((at_ : Int) + (i : Int))] 147)).drew) 147 wo.heap.size [.int .i64 1, .string (s.extract i k), .int .i64 ((at_ : Int) + (i : Int))] from Blk.new _ _ _)
         obtain ⟨w2, hw2⟩ : ∃ w2, w2 = (wo.alloc (.cells #[.int .i64 1, .string (s.extract i k), .int .i64 ((at_ : Int) + (i : Int))] 147)).drew := ⟨_, rfl⟩
         rw [← hw2] at HBW HT ⊢
         clear hw2
         have HI2 := h_ (HI.out.below HBW.out)
         have ht0 := HT.out.cell 0
         have ht1 := HT.out.cell 1
         have ht2 := HT.out.cell 2
         have htf := HT.out.free 0
         have hzt := HT.out.lt
         have HEK := HE
         by_cases h24 : 24 < c0t s i - i
         ·have HST := h_ (q0k HBF.out hn0 HLT.out h24)
          have h24i : (24 : Int) < IntKind.i64.wrap ((k : Int) - (i : Int)) := by rw [IntWalk.i64_in _ (by omega)]; have := HE.out; omega
          have hwk : IntKind.i64.wrap ((k : Int) - (i : Int)) = (k : Int) - (i : Int) := IntWalk.i64_in _ (by omega)
          rw [hwk] at h24i
          clear h24
          go_wp2_with fail
          refine g0e 4 (by kernel_rfl) (by kernel_rfl) ?_
          simp only [List.take_succ_cons, List.take_zero, List.drop_succ_cons, List.drop_zero]
          repeat still_step
          refine wpStill_nil ?_
          have HP := h_ HI2.out.2.2.2.2.1
          have HW := h_ HI2.out.2.2.2.2.2
          have HF := h_ HI2.out.2.1
          have hq0 := HP.out.cell 0
          have hq1 := HP.out.cell 1
          have hf0 := HP.out.free 0
          have hf1 := HP.out.free 1
          go_wp2
          refine m0m (W := w2.drew) rfl rfl rfl HP.out (HW.out.trans (j0b w2)) ?_ ?_ ?_
          ·rw [← HF.out, c0y hlt HST.out]; exact World.ownsRow_nil _ _ _ _
          ·rw [← HF.out, c0y hlt HST.out]; rfl
          ·rw [← HF.out, c0y hlt HST.out]; rfl
         ·have h24i : (k : Int) - (i : Int) ≤ 24 := by have := HE.out; omega
          have hwk : IntKind.i64.wrap ((k : Int) - (i : Int)) = (k : Int) - (i : Int) := IntWalk.i64_in _ (by omega)
          cases hd : f0y (s[i].toNat : Int)
          ·have HST := h_ (q0j HBF.out hn0 HLT.out h24 (by rw [HB.out]; exact hd))
           rw [HE.out] at HST
           have HO2 := h_ HI2.out.2.2.1
           clear h24
           go_wp2_with (first | (go_at_call 125; refine (i0x _ _).mono ?_; rintro e w' ⟨rfl, rfl⟩) | (at_builtin; refine n0u rfl _ _ 141 rfl (w.heap.size + 2) 147 _ 3 32 q0y rfl (by decide) _ _ _ rfl HO2.out [.int .i64 (1 : Nat), .string (s.extract i k), .int .i64 ((at_ : Int) + (i : Nat))] rfl _ rfl rfl (by simp [Value.oneCell']) ?c1 ?c2 ?c3 ?_))
           case c1 => unfold maxLen; omega
           case c2 => omega
           case c3 => omega
           intro v' w' ho' hg' hb'
           have HI3 := h_ (HI2.out.add hlt HST.out (Or.inl rfl) hik0 ho' hb')
           clear ho' hg' hb' HI HO2 HI2
           go_wp2
           go_roundw
           case rel => exact ⟨k, _, by omega, by go_num, HI3.out⟩
           case measure => simp [intOf]; omega
          ·have HDI := h_ (show f0y (bt s i) = true from by rw [HB.out]; exact hd)
           have HNE := h_ h24
           clear h24
           go_wp2_with (first | (go_at_call 125; refine (i0x _ _).mono ?_; rintro e w' ⟨rfl, rfl⟩))
           have HNU := h_ (show numE s i k = (b0h (s.extract i k).data.toList).2 from rfl)
           refine (k0i (s.extract i k) _ (by simp; unfold maxLen; omega)).mono ?_
           rintro e w' ⟨rfl, m, rfl⟩
           have HB3 := h_ (show Below wo.heap.size wo ((w2.setCell ⟨wo.heap.size, 0, none⟩ (.int .i64 2)).drewN m) from bd_ (HBW.out.setCell (Nat.le_refl _) _) m)
           have HT3 := h_ (show Blk ((w2.setCell ⟨wo.heap.size, 0, none⟩ (.int .i64 2)).drewN m) 147 wo.heap.size [.int .i64 2, .string (s.extract i k), .int .i64 ((at_ : Int) + (i : Int))] from HT.out.set 0 (.int .i64 2))
           obtain ⟨w3, hw3⟩ : ∃ w3, w3 = (w2.setCell ⟨wo.heap.size, 0, none⟩ (.int .i64 2)).drewN m := ⟨_, rfl⟩
           rw [← hw3] at HB3 HT3 ⊢
           clear hw3 HI2 ht0 ht1 ht2 htf hzt HT HBW
           have HI3 := h_ (HI.out.below HB3.out)
           have ht0 := HT3.out.cell 0
           have ht1 := HT3.out.cell 1
           have ht2 := HT3.out.cell 2
           have hzt := HT3.out.lt
           generalize (b0h (s.extract i k).data.toList).1 = pv at *
           generalize (b0h (s.extract i k).data.toList).2 = pc at *
           by_cases hpc : pc = 0
           ·have HST := h_ (s0z HBF.out hn0 HLT.out HNE.out HDI.out (by rw [HE.out, HNU.out, hpc]))
            rw [HE.out] at HST
            subst hpc
            have HO2 := h_ HI3.out.2.2.1
            go_wp2_with (first | (at_builtin; refine n0u rfl _ _ 141 rfl (w.heap.size + 2) 147 _ 3 32 q0y rfl (by decide) _ _ _ rfl HO2.out [.int .i64 (2 : Nat), .string (s.extract i k), .int .i64 ((at_ : Int) + (i : Nat))] rfl _ rfl rfl (by simp [Value.oneCell']) ?c1 ?c2 ?c3 ?_))
            case c1 => unfold maxLen; omega
            case c2 => omega
            case c3 => omega
            intro v' w' ho' hg' hb'
            have HI4 := h_ (HI3.out.add hlt HST.out (Or.inr (Or.inl rfl)) hik0 ho' hb')
            clear ho' hg' hb' HI HO2 HI3
            go_wp2
            go_roundw
            case rel => exact ⟨k, _, by omega, by go_num, HI4.out⟩
            case measure => simp [intOf]; omega
           ·have HST := h_ (t0a HBF.out hn0 HLT.out HNE.out HDI.out (by rw [HE.out, HNU.out]; exact hpc))
            rw [HE.out, HNU.out] at HST
            have hpi : ((pc : Int) == 0) = false := by simp; omega
            have hpn : ((pc : Int) != 0) = true := by simp; omega
            clear hpc
            go_wp2_with fail
            refine g0e 5 (by kernel_rfl) (by kernel_rfl) ?_
            simp only [List.take_succ_cons, List.take_zero, List.drop_succ_cons, List.drop_zero]
            repeat still_step
            refine wpStill_nil ?_
            have HP := h_ HI3.out.2.2.2.2.1
            have HW := h_ HI3.out.2.2.2.2.2
            have HF := h_ HI3.out.2.1
            have hq0 := HP.out.cell 0
            have hq1 := HP.out.cell 1
            have hf0 := HP.out.free 0
            have hf1 := HP.out.free 1
            go_wp2
            have hpz : pc ≠ 0 := by have := hpi; simp at this; omega
            refine m0m (W := w3.drew) rfl rfl rfl HP.out (HW.out.trans (j0b w3)) ?_ ?_ ?_
            ·rw [← HF.out, c0y hlt HST.out]; exact World.ownsRow_nil _ _ _ _
            ·rw [← HF.out, c0y hlt HST.out]
            ·rw [← HF.out, c0y hlt HST.out]; unfold g0r; rw [if_neg hpz]
        ·have HS2 := h_ (show scan (k0a s) s.size (k + 1) = c0t s i from by rw [← HS.out]; exact (f0f hklt (by unfold k0a; rw [HBK.out, hlk]; rfl)).symm)
         go_wp2_with (go_at_call 121; refine (g0h _ _).mono ?_; rintro e w' ⟨rfl, rfl⟩)
         go_round
         case rel => exact ⟨k + 1, by omega, by omega, by go_num, HS2.out⟩
         case measure => simp [intOf]; omega
       ·have hkz : ¬ (k : Int) < s.size := by omega
        have HE := h_ (show c0t s i = k from by rw [← HS.out]; exact e0w (by omega))
        go_wp2_with fail
        have hik0 : i < k := by rw [← HE.out]; exact x0c hlt HLT.out
        have hz1 : (k : Int) ≤ s.size := by omega
        have hz2 : (i : Int) ≤ k := by omega
        have hk0 : wo.cell? ⟨w.heap.size, 0, none⟩ = some (.string s) := hc0
        have hk1 : wo.cell? ⟨w.heap.size, 1, none⟩ = some (.int .i64 (at_ : Int)) := hc1
        go_region_held_law (fun w' => w'.cell? ⟨w.heap.size, 0, none⟩ = some (.string s) ∧ w'.cell? ⟨w.heap.size, 1, none⟩ = some (.int .i64 (at_ : Int)))
         (first | exact ⟨hk0, hk1⟩ | exact ⟨b0t hk0 _, b0t hk1 _⟩)
         (fail)
        clear hk0 hk1 HO hc0 hc1
        have HBW := h_ (show Below wo.heap.size wo ((wo.alloc (.cells #[.int .i64 1, .string (s.extract i k), .int .i64 ((at_ : Int) + (i : Int))] 147)).drew) from bd_ (bl_ (Below.refl _ _) _) 1)
        have HT := h_ (show Blk ((wo.alloc (.cells #[.int .i64 1, .string (s.extract i k), .int .i64 ((at_ : Int) + (i : Int))] 147)).drew) 147 wo.heap.size [.int .i64 1, .string (s.extract i k), .int .i64 ((at_ : Int) + (i : Int))] from Blk.new _ _ _)
        obtain ⟨w2, hw2⟩ : ∃ w2, w2 = (wo.alloc (.cells #[.int .i64 1, .string (s.extract i k), .int .i64 ((at_ : Int) + (i : Int))] 147)).drew := ⟨_, rfl⟩
        rw [← hw2] at HBW HT ⊢
        clear hw2
        have HI2 := h_ (HI.out.below HBW.out)
        have ht0 := HT.out.cell 0
        have ht1 := HT.out.cell 1
        have ht2 := HT.out.cell 2
        have htf := HT.out.free 0
        have hzt := HT.out.lt
        have HEK := HE
        by_cases h24 : 24 < c0t s i - i
        ·have HST := h_ (q0k HBF.out hn0 HLT.out h24)
         have h24i : (24 : Int) < IntKind.i64.wrap ((k : Int) - (i : Int)) := by rw [IntWalk.i64_in _ (by omega)]; have := HE.out; omega
         have hwk : IntKind.i64.wrap ((k : Int) - (i : Int)) = (k : Int) - (i : Int) := IntWalk.i64_in _ (by omega)
         rw [hwk] at h24i
         clear h24
         go_wp2_with fail
         refine g0e 4 (by kernel_rfl) (by kernel_rfl) ?_
         simp only [List.take_succ_cons, List.take_zero, List.drop_succ_cons, List.drop_zero]
         repeat still_step
         refine wpStill_nil ?_
         have HP := h_ HI2.out.2.2.2.2.1
         have HW := h_ HI2.out.2.2.2.2.2
         have HF := h_ HI2.out.2.1
         have hq0 := HP.out.cell 0
         have hq1 := HP.out.cell 1
         have hf0 := HP.out.free 0
         have hf1 := HP.out.free 1
         go_wp2
         refine m0m (W := w2.drew) rfl rfl rfl HP.out (HW.out.trans (j0b w2)) ?_ ?_ ?_
         ·rw [← HF.out, c0y hlt HST.out]; exact World.ownsRow_nil _ _ _ _
         ·rw [← HF.out, c0y hlt HST.out]; rfl
         ·rw [← HF.out, c0y hlt HST.out]; rfl
        ·have h24i : (k : Int) - (i : Int) ≤ 24 := by have := HE.out; omega
         have hwk : IntKind.i64.wrap ((k : Int) - (i : Int)) = (k : Int) - (i : Int) := IntWalk.i64_in _ (by omega)
         cases hd : f0y (s[i].toNat : Int)
         ·have HST := h_ (q0j HBF.out hn0 HLT.out h24 (by rw [HB.out]; exact hd))
          rw [HE.out] at HST
          have HO2 := h_ HI2.out.2.2.1
          clear h24
          go_wp2_with (first | (go_at_call 125; refine (i0x _ _).mono ?_; rintro e w' ⟨rfl, rfl⟩) | (at_builtin; refine n0u rfl _ _ 141 rfl (w.heap.size + 2) 147 _ 3 32 q0y rfl (by decide) _ _ _ rfl HO2.out [.int .i64 (1 : Nat), .string (s.extract i k), .int .i64 ((at_ : Int) + (i : Nat))] rfl _ rfl rfl (by simp [Value.oneCell']) ?c1 ?c2 ?c3 ?_))
          case c1 => unfold maxLen; omega
          case c2 => omega
          case c3 => omega
          intro v' w' ho' hg' hb'
          have HI3 := h_ (HI2.out.add hlt HST.out (Or.inl rfl) hik0 ho' hb')
          clear ho' hg' hb' HI HO2 HI2
          go_wp2
          go_roundw
          case rel => exact ⟨k, _, by omega, by go_num, HI3.out⟩
          case measure => simp [intOf]; omega
         ·have HDI := h_ (show f0y (bt s i) = true from by rw [HB.out]; exact hd)
          have HNE := h_ h24
          clear h24
          go_wp2_with (first | (go_at_call 125; refine (i0x _ _).mono ?_; rintro e w' ⟨rfl, rfl⟩))
          have HNU := h_ (show numE s i k = (b0h (s.extract i k).data.toList).2 from rfl)
          refine (k0i (s.extract i k) _ (by simp; unfold maxLen; omega)).mono ?_
          rintro e w' ⟨rfl, m, rfl⟩
          have HB3 := h_ (show Below wo.heap.size wo ((w2.setCell ⟨wo.heap.size, 0, none⟩ (.int .i64 2)).drewN m) from bd_ (HBW.out.setCell (Nat.le_refl _) _) m)
          have HT3 := h_ (show Blk ((w2.setCell ⟨wo.heap.size, 0, none⟩ (.int .i64 2)).drewN m) 147 wo.heap.size [.int .i64 2, .string (s.extract i k), .int .i64 ((at_ : Int) + (i : Int))] from HT.out.set 0 (.int .i64 2))
          obtain ⟨w3, hw3⟩ : ∃ w3, w3 = (w2.setCell ⟨wo.heap.size, 0, none⟩ (.int .i64 2)).drewN m := ⟨_, rfl⟩
          rw [← hw3] at HB3 HT3 ⊢
          clear hw3 HI2 ht0 ht1 ht2 htf hzt HT HBW
          have HI3 := h_ (HI.out.below HB3.out)
          have ht0 := HT3.out.cell 0
          have ht1 := HT3.out.cell 1
          have ht2 := HT3.out.cell 2
          have hzt := HT3.out.lt
          generalize (b0h (s.extract i k).data.toList).1 = pv at *
          generalize (b0h (s.extract i k).data.toList).2 = pc at *
          by_cases hpc : pc = 0
          ·have HST := h_ (s0z HBF.out hn0 HLT.out HNE.out HDI.out (by rw [HE.out, HNU.out, hpc]))
           rw [HE.out] at HST
           subst hpc
           have HO2 := h_ HI3.out.2.2.1
           go_wp2_with (first | (at_builtin; refine n0u rfl _ _ 141 rfl (w.heap.size + 2) 147 _ 3 32 q0y rfl (by decide) _ _ _ rfl HO2.out [.int .i64 (2 : Nat), .string (s.extract i k), .int .i64 ((at_ : Int) + (i : Nat))] rfl _ rfl rfl (by simp [Value.oneCell']) ?c1 ?c2 ?c3 ?_))
           case c1 => unfold maxLen; omega
           case c2 => omega
           case c3 => omega
           intro v' w' ho' hg' hb'
           have HI4 := h_ (HI3.out.add hlt HST.out (Or.inr (Or.inl rfl)) hik0 ho' hb')
           clear ho' hg' hb' HI HO2 HI3
           go_wp2
           go_roundw
           case rel => exact ⟨k, _, by omega, by go_num, HI4.out⟩
           case measure => simp [intOf]; omega
          ·have HST := h_ (t0a HBF.out hn0 HLT.out HNE.out HDI.out (by rw [HE.out, HNU.out]; exact hpc))
           rw [HE.out, HNU.out] at HST
           have hpi : ((pc : Int) == 0) = false := by simp; omega
           have hpn : ((pc : Int) != 0) = true := by simp; omega
           clear hpc
           go_wp2_with fail
           refine g0e 5 (by kernel_rfl) (by kernel_rfl) ?_
           simp only [List.take_succ_cons, List.take_zero, List.drop_succ_cons, List.drop_zero]
           repeat still_step
           refine wpStill_nil ?_
           have HP := h_ HI3.out.2.2.2.2.1
           have HW := h_ HI3.out.2.2.2.2.2
           have HF := h_ HI3.out.2.1
           have hq0 := HP.out.cell 0
           have hq1 := HP.out.cell 1
           have hf0 := HP.out.free 0
           have hf1 := HP.out.free 1
           go_wp2
           have hpz : pc ≠ 0 := by have := hpi; simp at this; omega
           refine m0m (W := w3.drew) rfl rfl rfl HP.out (HW.out.trans (j0b w3)) ?_ ?_ ?_
           ·rw [← HF.out, c0y hlt HST.out]; exact World.ownsRow_nil _ _ _ _
           ·rw [← HF.out, c0y hlt HST.out]
           ·rw [← HF.out, c0y hlt HST.out]; unfold g0r; rw [if_neg hpz]
   ·have HI2 := h_ (HI.out.skip hlt (by rw [HB.out]; exact hb))
    clear HI HO
    go_wp2_with (go_at_call 84; refine (b0w _ _).mono ?_; rintro e w' ⟨rfl, rfl⟩)
    go_roundw
    case rel => exact ⟨i + 1, acc, by omega, by go_num, HI2.out⟩
    case measure => simp [intOf]; omega
  ·obtain rfl : i = s.size := by omega
   go_wp2_with (at_builtin; refine n0u rfl _ _ 141 rfl (w.heap.size + 2) 147 _ 3 32 q0y rfl (by decide) _ _ _ rfl HO.out [.int .i64 (4 : Nat), .string ⟨#[]⟩, .int .i64 ((at_ : Int) + (s.size : Nat))] rfl _ rfl (by simp) (by simp [Value.oneCell']) ?c1 ?c2 ?c3 ?_)
   case c1 => unfold maxLen; omega
   case c2 => omega
   case c3 => omega
   intro v' w' ho' hg' hb'
   have HO2 := h_ ho'
   have HP := h_ (HI.out.2.2.2.2.1.belowB hb' (by omega))
   have HW := h_ (HI.out.2.2.2.2.2.trans (hb'.mono (by omega)))
   have HF := h_ HI.out.2.1
   clear ho' hg' hb' HI HO
   have hq0 := HP.out.cell 0
   have hq1 := HP.out.cell 1
   have hf0 := HP.out.free 0
   have hf1 := HP.out.free 1
   go_wp2
   refine m0m rfl rfl rfl HP.out HW.out ?_ ?_ ?_
   ·rw [← HF.out, o0s (by omega)]; simp only [l0q, List.length_append]; rw [u0c]; exact HO2.out
   ·rw [← HF.out, o0s (by omega)]; rfl
   ·rw [← HF.out, o0s (by omega)]; rfl
end
end Go.Proofs.YtmnojnopejhebaaGreat
