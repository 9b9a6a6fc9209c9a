/- Operations by their names; where a branch leads to. -/
import Derived.Test.YtmnojnopejhebaaGreatMgaa
import Derived.Test.YtmnojnopejhebaaGreatMgah
import Derived.Test.YtmnojnopejhebaaGreatMgai
import Derived.Test.YtmnojnopejhebaaGreatMgao
import Derived.Test.YtmnojnopejhebaaGreatRows
import Derived.Shelf.Strings.OnBuilder
import Derived.Lib.Builder
import Derived.Lib.UnsafeStr
import Derived.Deep.RegionHeld
namespace Go.Proofs.YtmnojnopejhebaaGreat
set_option linter.unusedVariables false
set_option linter.unusedSimpArgs false
set_option maxRecDepth 100000
set_option maxHeartbeats 25600000
section
open Go.Shelf Go.RowKit
def p0e : Ren := ⟨fun | 156 => 59 | 165 => 102 | 166 => 58 | 169 => 31 | 240 => 101 | 241 => 139 | 276 => 138 | 277 => 152 | n => n, fun | 0 => 0 | 3 => 3 | 4 => 4 | 5 => 5 | 9 => 9 | 20 => 20 | 31 => 116 | 37 => 71 | 70 => 70 | 72 => 73 | 75 => 118 | 76 => 119 | 80 => 85 | 127 => 124 | 164 => 182 | n => n, fun n => n⟩
theorem n1k : Lays.n156 Tryz.prog p0e := {
 mixed := by kernel_rfl,
 f156 := by kernel_rfl,
 f165 := by kernel_rfl,
 f166 := by kernel_rfl,
 f169 := by kernel_rfl,
 f240 := by kernel_rfl,
 f241 := by kernel_rfl,
 f276 := by kernel_rfl,
 f277 := by kernel_rfl,
 t0 := by kernel_rfl,
 a0 := fun _ => by kernel_rfl,
 z0 := fun _ => by kernel_rfl,
 v0 := fun _ => by kernel_rfl,
 t3 := by kernel_rfl,
 a3 := fun _ => by kernel_rfl,
 z3 := fun _ => by kernel_rfl,
 v3 := fun _ => by kernel_rfl,
 t4 := by kernel_rfl,
 a4 := fun _ => by kernel_rfl,
 z4 := fun _ => by kernel_rfl,
 v4 := fun _ => by kernel_rfl,
 t9 := by kernel_rfl,
 a9 := fun _ => by kernel_rfl,
 z9 := fun _ => by kernel_rfl,
 v9 := fun _ => by kernel_rfl,
 t20 := by kernel_rfl,
 a20 := fun _ => by kernel_rfl,
 z20 := fun _ => by kernel_rfl,
 v20 := fun _ => by kernel_rfl,
 t31 := by kernel_rfl,
 a31 := fun _ => by kernel_rfl,
 z31 := fun _ => by kernel_rfl,
 v31 := fun _ => by kernel_rfl,
 t37 := by kernel_rfl,
 a37 := fun _ => by kernel_rfl,
 z37 := fun _ => by kernel_rfl,
 v37 := fun _ => by kernel_rfl,
 t70 := by kernel_rfl,
 a70 := fun _ => by kernel_rfl,
 z70 := fun _ => by kernel_rfl,
 v70 := fun _ => by kernel_rfl,
 t72 := by kernel_rfl,
 a72 := fun _ => by kernel_rfl,
 z72 := fun _ => by kernel_rfl,
 v72 := fun _ => by kernel_rfl,
 t75 := by kernel_rfl,
 a75 := fun _ => by kernel_rfl,
 z75 := fun _ => by kernel_rfl,
 v75 := fun _ => by kernel_rfl,
 t76 := by kernel_rfl,
 a76 := fun _ => by kernel_rfl,
 z76 := fun _ => by kernel_rfl,
 v76 := fun _ => by kernel_rfl,
 t127 := by kernel_rfl,
 a127 := fun _ => by kernel_rfl,
 z127 := fun _ => by kernel_rfl,
 v127 := fun _ => by kernel_rfl,
 t164 := by kernel_rfl,
 a164 := fun _ => by kernel_rfl,
 z164 := fun _ => by kernel_rfl,
 v164 := fun _ => by kernel_rfl }
theorem k1b : Builder.Extra Tryz.prog p0e :=
 { sizeBuilder := by kernel_rfl, liesBuilder := by kernel_rfl, t5 := by kernel_rfl, a5 := fun _ => by kernel_rfl, z5 := fun _ => by kernel_rfl, v5 := fun _ => by kernel_rfl, infoByte := by kernel_rfl, cellsByte := by kernel_rfl, sizeByte := by kernel_rfl, neB5 := by decide }
theorem j1l (bk o c : Nat) (xs : List ByteArray) (sep : ByteArray) (w : World) (hcells : ∀ (j : Nat) x, xs[j]? = some x → w.cell? ⟨bk, o + j, none⟩ = some (.string x)) (hbk : bk < w.heap.size) (hN : xs.length ≤ 140737488355328) (hcap : xs.length ≤ c) (hlen : (Lib.join (xs.map (·.data.toList)) sep.data.toList).length ≤ 140737488355328) :
  Calls Tryz.prog 59 #[.slice (some ⟨bk, o, none⟩) xs.length c, .string sep] w fun e w' => e = .returned (.string ⟨(Lib.join (xs.map (·.data.toList)) sep.data.toList).toArray⟩) ∧ Below w.heap.size w w' :=
 Any.strings_Join n1k k1b bk o c xs sep w hcells hbk hN hcap hlen
def WB (B b : Nat) (bs : List Value) (w : World) : Prop := Lib.IsBuilder 75 5 B b bs w
theorem wptr : Tryz.prog.underlying 70 = some (.pointer 73) := rfl
theorem winfo : ∃ j, Tryz.prog.info? 73 = some j ∧ j.size = 2 := by
 have h : (Tryz.prog.info? 73).map (·.size) = some 2 := by kernel_rfl
 obtain ⟨j, h1, h2⟩ := Option.map_eq_some_iff.1 h
 exact ⟨j, h1, h2⟩
structure WK (B b : Nat) (w w' : World) : Prop where
 below : Below B w w'
 typed : ∀ (k : Nat) (T : TypeId) (cs : Array Value) (fr : Nat × Nat), k ≠ b → w.heap[k]? = some (.cells cs T fr) → T ≠ 5 → w'.heap[k]? = some (.cells cs T fr)
theorem WK.refl (B b : Nat) (w : World) : WK B b w w := ⟨Below.refl _ _, fun _ _ _ _ _ h _ => h⟩
theorem WK.drew (B b : Nat) (w : World) : WK B b w w.drew := ⟨(Below.refl _ _).drew, fun _ _ _ _ _ h _ => h⟩
theorem WK.trans {B b : Nat} {w w1 w2 : World} (h : WK B b w w1) (k : WK B b w1 w2) : WK B b w w2 := ⟨h.below.trans k.below, fun i T cs fr hi hh ht => k.typed i T cs fr hi (h.typed i T cs fr hi hh ht) ht⟩
theorem WK.ofBelow {B b : Nat} {w w' : World} (h : Below w.heap.size w w') (hB : B ≤ w.heap.size) : WK B b w w' := ⟨h.mono hB, fun k T cs fr _ hh _ => (h.block k (Array.getElem?_eq_some_iff.1 hh).1).trans hh⟩
theorem WK.setB {B b : Nat} {w w' : World} (h : WK B b w w') (hB : B ≤ b) (j : Nat) (v : Value) : WK B b w (w'.setCell ⟨b, j, none⟩ v) :=
 ⟨h.below.setCell (p := ⟨b, j, none⟩) hB v, fun k T cs fr hk hh ht => (Below.heap_setCell _ _ _ _ hk).trans (h.typed k T cs fr hk hh ht)⟩
theorem Blk.wk {B b : Nat} {w w' : World} {T : TypeId} {g : Nat} {cs : List Value} (h : Blk w T g cs) (hk : WK B b w w') (hg : g ≠ b) (ht : T ≠ 5) : Blk w' T g cs := hk.typed g T _ _ hg h ht
theorem u0r {w w' : World} (h : Below w.heap.size w w') : w.grownBy w' none := ⟨h.os, h.tape, h.output, h.size, fun k hk _ => h.block k hk⟩
theorem WB.keep {B b : Nat} {bs : List Value} {w w' : World} (h : WB B b bs w) (hb : Below w.heap.size w w') : WB B b bs w' := by
 have key : ∀ p, Lib.BuilderAt 75 5 B b p bs w → Lib.BuilderAt 75 5 B b p bs w' := by
  rintro p ⟨hB, v, hh, ho, hn⟩
  exact ⟨hB, v, (hb.block b (Array.getElem?_eq_some_iff.1 hh).1).trans hh, ho.kept (u0r hb) (Classical.em _), hn⟩
 rcases h with h | h
 ·exact .inl (key _ h)
 ·exact .inr (key _ h)
theorem WB.le {B b : Nat} {bs : List Value} {w : World} (h : WB B b bs w) : B ≤ b := by
 rcases h with h | h <;> exact h.1
theorem WB.lt {B b : Nat} {bs : List Value} {w : World} (h : WB B b bs w) : b < w.heap.size := by
 rcases h with h | h <;> exact h.lt
theorem c1c (B b : Nat) (bs : List Value) (w : World) (h : WB B b bs w) :
  Calls Tryz.prog 101 #[.pointer (some ⟨b, 0, none⟩)] w fun e w' => e = .returned (.tuple #[]) ∧ (Lib.BuilderAt 75 5 B b (.pointer (some ⟨b, 0, none⟩)) bs w' ∧ WK B b w w') := by
 obtain ⟨j, hj, hjs⟩ := winfo
 rcases h with h | h
 ·have h0 := h.cell0
  have hsh := h.shape
  have hfz := h.frozen0
  have hX : (callFunc 138 #[.pointer (some ⟨b, 0, none⟩)]).run Tryz.prog w = .ok (.value (.pointer (some ⟨b, 0, none⟩))) w := by
   rw [run_callFunc_extern Tryz.func138 (by kernel_rfl) (by kernel_rfl) (by kernel_rfl) (e := Extern.AbiNoEscape.same) (by kernel_rfl), Lib.run_noEscape]
   rfl
  have hU := Lib.run_to_unsafe (P := Tryz.prog) (src := 70) (dst := 182) w (⟨b, 0, none⟩ : Addr) wptr (by rfl) hj (by rw [hjs]; decide) hsh (Nat.zero_lt_succ 1)
  have hF := Lib.run_from_unsafe (P := Tryz.prog) (src := 182) (dst := 70) w (⟨b, 0, none⟩ : Addr) (by rfl) wptr hj hsh (by kernel_rfl)
  go_enter Tryz.func101, Tryz.ntmps101
  go_wp2
  go_end0
  exact ⟨rfl, h.used _, (WK.refl B b w).setB h.1 0 _⟩
 ·have h0 := h.cell0
  have hE := Lib.run_neq_ptr_same (P := Tryz.prog) w (⟨b, 0, none⟩ : Addr) wptr hj
  go_enter Tryz.func101, Tryz.ntmps101
  go_wp2
  go_end0
  exact ⟨rfl, h, WK.refl B b _⟩
theorem el_u8b : ∃ i, Tryz.prog.info? 5 = some i ∧ i.zero = some (.int .u8 0) ∧ i.size = 1 ∧ i.bytes = 1 := by
 have h : (Tryz.prog.info? 5).map (fun i => (i.zero, i.size, i.bytes)) = some (some (.int .u8 0), 1, 1) := by kernel_rfl
 obtain ⟨i, hi, h0, h1, h2⟩ := info_parts h
 exact ⟨i, hi, h0, h1, h2⟩
theorem y0o (B b : Nat) (bs : List Value) (s : ByteArray) (w : World) (h : WB B b bs w) (hlen : bs.length + s.size ≤ 140737488355328) (hBw : B ≤ w.heap.size) :
  Calls Tryz.prog 58 #[.pointer (some ⟨b, 0, none⟩), .string s] w fun e w' => e = .returned (.tuple #[.int .i64 s.size, .nilIface]) ∧ WB B b (bs ++ Lib.strCells s) w' ∧ WK B b w w' := by
 obtain ⟨i0, hi, hz0, hz1, hz2⟩ := el_u8b
 have HC := h_ (c1c B b bs w h)
 clear h
 go_enter Tryz.func58, Tryz.ntmps58
 go_wp2_with (go_at_call 101; refine (HC.out).mono ?_)
 rintro e w1 ⟨rfl, h1, hb1⟩
 obtain ⟨hB, v, hbk, hown, hne⟩ := h1
 have c0 : w1.cell? ⟨b, 0, none⟩ = some (.pointer (some ⟨b, 0, none⟩)) := by rw [Lib.cell_of_heap hbk]; rfl
 have c1 : w1.cell? ⟨b, 1, none⟩ = some v := by rw [Lib.cell_of_heap hbk]; rfl
 go_wp2_with (at_builtin; refine Lib.wpList_append_own_string _ rfl _ _ 71 9 rfl B 5 i0 (by rfl) (by rfl) hi hz0 hz1 hz2 _ _ _ rfl hown s rfl ?c3 ?c4 ?c5 ?_)
 case c3 => unfold maxLen; omega
 case c4 => omega
 case c5 => have := hb1.below.size; omega
 intro v' w2 hown' hgrow _
 have hlt : b < w1.heap.size := (Array.getElem?_eq_some_iff.1 hbk).1
 have hb2 : w2.heap[b]? = some (.cells #[.pointer (some ⟨b, 0, none⟩), v] 75 (0, 0)) := by
  rw [hgrow.block b hlt (fun e => hne e.symm)]
  exact hbk
 have d0 : w2.cell? ⟨b, 0, none⟩ = some (.pointer (some ⟨b, 0, none⟩)) := by rw [Lib.cell_of_heap hb2]; rfl
 have d1 : w2.cell? ⟨b, 1, none⟩ = some v := by rw [Lib.cell_of_heap hb2]; rfl
 have f1 : w2.frozen? ⟨b, 1, none⟩ = false := Lib.frozen_of_heap hb2 1
 obtain ⟨ao, n', cap, rfl⟩ : ∃ ao n' cap, v' = .slice ao n' cap := by
  rcases hown'.2 with ⟨hv, _⟩ | ⟨g, cap, cur, hv, _⟩
  ·exact ⟨_, _, _, hv⟩
  ·exact ⟨_, _, _, hv⟩
 clear hi hz0 hz1 hz2
 go_wp2
 go_ret2
 refine ⟨rfl, .inr ?_, ?_⟩
 ·exact Lib.BuilderAt.put (T := 75) (e := 5) hB hb2 (bs' := bs ++ Lib.strCells s) (by simpa [Lib.strCells_length] using hown') (by decide)
 ·refine WK.setB ⟨hb1.below.grown hgrow (by have := hb1.below.size; omega) (fun k hk => (hown.lt k hk).1), fun k T cs fr hk hh ht => ?_⟩ hB 1 _
  have h1 := hb1.typed k T cs fr hk hh ht
  exact (hgrow.block k (Array.getElem?_eq_some_iff.1 h1).1 (fun e => Lib.ownBlock_ne hown h1 ht e.symm)).trans h1
theorem o0l (B b : Nat) (l : List UInt8) (w : World) (h : WB B b (Lib.byteCells l) w) (h0 : l ≠ []) :
  Calls Tryz.prog 31 #[.pointer (some ⟨b, 0, none⟩)] w fun e w' => e = .returned (.string ⟨l.toArray⟩) ∧ Below B w w' := by
 obtain ⟨p, hB, v, hbk, hown, hne⟩ : ∃ p, Lib.BuilderAt 75 5 B b p (Lib.byteCells l) w := by
  rcases h with h | h <;> exact ⟨_, h⟩
 have hl0 : l.length ≠ 0 := by simpa using h0
 rw [Lib.byteCells_length] at hown
 obtain ⟨g, cap, cur, rfl, hbg, hg, hnc, hcm, hcs, htake⟩ : ∃ g cap cur, v = .slice (some ⟨g, 0, none⟩) l.length cap ∧ B ≤ g ∧ w.heap[g]? = some (.cells cur 5 (0, 0)) ∧ l.length ≤ cap ∧ cap ≤ maxLen ∧ cur.size = cap * 1 ∧ cur.toList.take (l.length * 1) = Lib.byteCells l := by
  rcases hown.2 with ⟨_, hz⟩ | ⟨g, cap, cur, hv, r⟩
  ·exact absurd hz hl0
  ·exact ⟨g, cap, cur, hv, r⟩
 have c1 : w.drew.cell? ⟨b, 1, none⟩ = some (.slice (some ⟨g, 0, none⟩) l.length cap) := by
  have : w.drew.heap[b]? = some (.cells #[p, .slice (some ⟨g, 0, none⟩) l.length cap] 75 (0, 0)) := hbk
  rw [Lib.cell_of_heap this]; rfl
 have hSD : (Builtin.unsafeSliceData_ #[71] 124 #[.slice (some ⟨g, 0, none⟩) l.length cap]).run Tryz.prog w.drew = .ok (.pointer (some ⟨g, 0, none⟩)) w.drew :=
  Lib.run_unsafeSliceData_row _ _ _ _ _ _ (by omega)
 have hUS : (Builtin.unsafeString_ #[124, 3] 9 #[.pointer (some ⟨g, 0, none⟩), .int .i64 l.length]).run Tryz.prog w.drew = .ok (.string ⟨l.toArray⟩) (w.drew.freeze ⟨g, 0, none⟩ l.length) := by
  refine Lib.run_unsafeString_row w.drew 124 3 9 5 (by rfl) (by kernel_rfl) g cur.size (by have hg' : w.drew.heap[g]? = some (.cells cur 5 (0, 0)) := hg; simp [World.shape?, hg']) l h0 (by omega) (by unfold maxLen at hcm; omega) ?_
  intro j x hx
  exact hown.cells (g := g) rfl j (.int .u8 x.toNat) (by simp [Lib.byteCells, hx])
 go_enter Tryz.func31, Tryz.ntmps31
 go_wp2
 go_region
 all_goals (go_wp2; go_ret; exact ⟨rfl, Lib.below_freeze (Below.drew (Below.refl B w)) (p := ⟨g, 0, none⟩) hbg _⟩)
theorem e0u (B b : Nat) (l : List UInt8) (T : TypeId) (g : Nat) (xs : List ByteArray) (w : World) (h : WB B b (Lib.byteCells l) w) (hx : Blk w T g (xs.map Value.string)) (hn : xs.length ≤ 100) (R : List UInt8) (hR : Lib.join (xs.map (·.data.toList)) [32] = R) (hlen : l.length + R.length + 1 ≤ 1000000000) (hBw : B ≤ w.heap.size) :
  Calls Tryz.prog 27 #[.pointer (some ⟨b, 0, none⟩), .slice (some ⟨g, 0, none⟩) xs.length xs.length] w fun e w' => e = .returned (.tuple #[]) ∧ WB B b (Lib.byteCells (l ++ (R ++ [10]))) w' ∧ WK B b w w' := by
 have HJ := h_ (j1l g 0 xs.length xs ⟨#[32]⟩ w.drew (fun j x hj => by
  have := hx.cell j
  rw [List.getElem?_map, hj] at this
  rw [Nat.zero_add]; exact this) hx.lt (by omega) (Nat.le_refl _) (by rw [show (⟨#[32]⟩ : ByteArray).data.toList = [32] from rfl, hR]; omega))
 rw [show (⟨#[32]⟩ : ByteArray).data.toList = [32] from rfl, hR] at HJ
 have HW := h_ h
 have HWR := h_ (fun (l : List UInt8) (s : ByteArray) (w : World) (h : WB B b (Lib.byteCells l) w) (hl : l.length + s.size ≤ 140737488355328) (hb : B ≤ w.heap.size) => y0o B b (Lib.byteCells l) s w h (by rw [Lib.byteCells_length]; exact hl) hb)
 have HL := h_ hlen
 have HBW := h_ hBw
 clear h hx hn hR hlen hBw
 go_enter Tryz.func27, Tryz.ntmps27
 go_wp2_with fail
 refine wp_region_held_drew (S := (fun w' => B ≤ w'.heap.size)) (by kernel_rfl) (by (try dsimp only); first | exact HB3.out | exact HB2.out | exact HBW.out) (fun hHeld => ?_)
 refine tk1 0 4 rfl ?_
 simp only [Act.put, tka, tk0, tkS]
 refine tk1 1 5 rfl ?_
 simp only [Act.put, tka, tk0, tkS]
 refine tk1 2 6 rfl ?_
 simp only [Act.put, tka, tk0, tkS]
 refine tk1 3 7 rfl ?_
 simp only [Act.put, tka, tk0, tkS]
 refine wpAnyH_ready (rs := [4]) (by kernel_rfl) (by simp) ?_
 refine AllReadyH.cons (o := ⟨some 8, _, _, _, _, _⟩) rfl (fun K hK => ?_) AllReadyH.nil
 go_simp
 go_at_call 59; refine HJ.out.mono ?_; rintro e w2 ⟨rfl, hb⟩; have HW2 := h_ (WB.keep (show WB B b (Lib.byteCells l) w.drew from HW.out) hb); have HK2 := h_ (show WK B b w w2 from (WK.drew B b w).trans (WK.ofBelow (w := w.drew) hb HBW.out)); have HB2 := h_ (show B ≤ w2.heap.size from Nat.le_trans HBW.out hb.size); clear hb
 refine hK.out _ _ (by (try dsimp only); first | exact HB3.out | exact HB2.out | exact HBW.out) ?_
 clear hK K hHeld
 intro hHeld
 try simp only [Act.put, tka, tk0, tkS]
 refine wpAnyH_ready (rs := [5]) (by kernel_rfl) (by simp) ?_
 refine AllReadyH.cons (o := ⟨some 9, _, _, _, _, _⟩) rfl (fun K hK => ?_) AllReadyH.nil
 go_simp
 go_at_call 58; refine (HWR.out l _ w2 HW2.out (by have := HL.out; rw [Lib.size_eq]; simp; omega) HB2.out).mono ?_; rintro e w3 ⟨rfl, hw, hk⟩; have HW3 := h_ hw; have HK3 := h_ (HK2.out.trans hk); have HB3 := h_ (show B ≤ w3.heap.size from Nat.le_trans HB2.out hk.below.size); clear hw hk
 refine hK.out _ _ (by (try dsimp only); first | exact HB3.out | exact HB2.out | exact HBW.out) ?_
 clear hK K hHeld
 intro hHeld
 try simp only [Act.put, tka, tk0, tkS]
 refine wpAnyH_done (by kernel_rfl) ?_ _
 clear hHeld
 have HW3 := h_ (show WB B b (Lib.byteCells (l ++ R)) w3 from by rw [Lib.byteCells_append]; exact HW3.out)
 have HW4 := h_ (HWR.out (l ++ R) ⟨#[10]⟩ w3 HW3.out (by have := HL.out; rw [show (⟨#[10]⟩ : ByteArray).size = 1 from rfl]; simp; omega) HB3.out)
 have HE := h_ (show Lib.byteCells (l ++ R) ++ Lib.strCells ⟨#[10]⟩ = Lib.byteCells (l ++ (R ++ [10])) from by rw [← List.append_assoc, Lib.byteCells_append (l ++ R)]; rfl)
 go_wp2_with fail
 refine HW4.out.mono ?_
 rintro e w4 ⟨rfl, hw, hk⟩
 rw [HE.out] at hw
 have HW5 := h_ hw
 have HK5 := h_ (HK3.out.trans hk)
 clear hw hk
 go_wp2_with fail
 go_end0
 exact ⟨rfl, HW5.out, HK5.out⟩
end
section
open Go.RowKit
theorem o1s (w : World) : Calls Tryz.prog 105 #[.int .i64 1] w fun e w' => e = .returned (.string { data := #[78, 79, 80] }) ∧ w = w' := by
 go_enter Tryz.func105, Tryz.ntmps105
 go_wp2
 go_ret
 exact ⟨rfl, rfl⟩
theorem g1f (w : World) : Calls Tryz.prog 105 #[.int .i64 2] w fun e w' => e = .returned (.string { data := #[76, 68, 82] }) ∧ w = w' := by
 go_enter Tryz.func105, Tryz.ntmps105
 go_wp2
 go_ret
 exact ⟨rfl, rfl⟩
theorem g1e (w : World) : Calls Tryz.prog 105 #[.int .i64 3] w fun e w' => e = .returned (.string { data := #[83, 84, 82] }) ∧ w = w' := by
 go_enter Tryz.func105, Tryz.ntmps105
 go_wp2
 go_ret
 exact ⟨rfl, rfl⟩
theorem o1r (w : World) : Calls Tryz.prog 105 #[.int .i64 4] w fun e w' => e = .returned (.string { data := #[76, 68, 65, 82] }) ∧ w = w' := by
 go_enter Tryz.func105, Tryz.ntmps105
 go_wp2
 go_ret
 exact ⟨rfl, rfl⟩
theorem o1q (w : World) : Calls Tryz.prog 105 #[.int .i64 5] w fun e w' => e = .returned (.string { data := #[83, 84, 76, 82] }) ∧ w = w' := by
 go_enter Tryz.func105, Tryz.ntmps105
 go_wp2
 go_ret
 exact ⟨rfl, rfl⟩
theorem o1p (w : World) : Calls Tryz.prog 105 #[.int .i64 8] w fun e w' => e = .returned (.string { data := #[65, 68, 68] }) ∧ w = w' := by
 go_enter Tryz.func105, Tryz.ntmps105
 go_wp2
 go_ret
 exact ⟨rfl, rfl⟩
theorem o1o (w : World) : Calls Tryz.prog 105 #[.int .i64 9] w fun e w' => e = .returned (.string { data := #[83, 85, 66] }) ∧ w = w' := by
 go_enter Tryz.func105, Tryz.ntmps105
 go_wp2
 go_ret
 exact ⟨rfl, rfl⟩
theorem l1f (w : World) : Calls Tryz.prog 105 #[.int .i64 10] w fun e w' => e = .returned (.string { data := #[65, 78, 68] }) ∧ w = w' := by
 go_enter Tryz.func105, Tryz.ntmps105
 go_wp2
 go_ret
 exact ⟨rfl, rfl⟩
theorem l1e (w : World) : Calls Tryz.prog 105 #[.int .i64 11] w fun e w' => e = .returned (.string { data := #[79, 82, 82] }) ∧ w = w' := by
 go_enter Tryz.func105, Tryz.ntmps105
 go_wp2
 go_ret
 exact ⟨rfl, rfl⟩
theorem l1d (w : World) : Calls Tryz.prog 105 #[.int .i64 12] w fun e w' => e = .returned (.string { data := #[69, 79, 82] }) ∧ w = w' := by
 go_enter Tryz.func105, Tryz.ntmps105
 go_wp2
 go_ret
 exact ⟨rfl, rfl⟩
theorem l1c (w : World) : Calls Tryz.prog 105 #[.int .i64 13] w fun e w' => e = .returned (.string { data := #[83, 85, 66, 83] }) ∧ w = w' := by
 go_enter Tryz.func105, Tryz.ntmps105
 go_wp2
 go_ret
 exact ⟨rfl, rfl⟩
theorem k1z (w : World) : Calls Tryz.prog 105 #[.int .i64 15] w fun e w' => e = .returned (.string { data := #[67, 66, 90] }) ∧ w = w' := by
 go_enter Tryz.func105, Tryz.ntmps105
 go_wp2
 go_ret
 exact ⟨rfl, rfl⟩
theorem k1y (w : World) : Calls Tryz.prog 105 #[.int .i64 16] w fun e w' => e = .returned (.string { data := #[67, 66, 78, 90] }) ∧ w = w' := by
 go_enter Tryz.func105, Tryz.ntmps105
 go_wp2
 go_ret
 exact ⟨rfl, rfl⟩
theorem k1x (w : World) : Calls Tryz.prog 105 #[.int .i64 20] w fun e w' => e = .returned (.string { data := #[73, 83, 66] }) ∧ w = w' := by
 go_enter Tryz.func105, Tryz.ntmps105
 go_wp2
 go_ret
 exact ⟨rfl, rfl⟩
theorem k1w (w : World) : Calls Tryz.prog 105 #[.int .i64 22] w fun e w' => e = .returned (.string { data := #[69, 82, 69, 84] }) ∧ w = w' := by
 go_enter Tryz.func105, Tryz.ntmps105
 go_wp2
 go_ret
 exact ⟨rfl, rfl⟩
theorem d0w (n : Int) (w : World) (hn : -9223372036854775808 ≤ n ∧ n ≤ 9223372036854775807) :
  Calls Tryz.prog 106 #[.int .i64 n] w fun e w' => e = .returned (.string (ba (a0o n))) ∧ ∃ m, w' = w.drewN m := by
 have b1 := d0m n hn
 have HI := h_ (fun w1 : World => l0l n w1 hn)
 by_cases h : n < 0
 ·have H := h_ (show a0o n = [46] ++ intL n by unfold a0o; rw [if_pos h])
  have hcat : ∀ wx : World, (Op.stringOp .add { data := #[46] } (ba (intL n))).run Tryz.prog wx = .ok (.string (ba ([46] ++ intL n))) wx := r0i (P := Tryz.prog) [46] (intL n) (by simp; omega)
  go_enter Tryz.func106, Tryz.ntmps106
  go_wp2_with fail
  refine (HI.out _).mono ?_
  rintro e w' ⟨rfl, m, rfl⟩
  go_wp2_with fail
  go_ret
  exact ⟨by rw [H.out]; rfl, _, rfl⟩
 ·have H := h_ (show a0o n = [46, 43] ++ intL n by unfold a0o; rw [if_neg h])
  have hcat : ∀ wx : World, (Op.stringOp .add { data := #[46, 43] } (ba (intL n))).run Tryz.prog wx = .ok (.string (ba ([46, 43] ++ intL n))) wx := r0i (P := Tryz.prog) [46, 43] (intL n) (by simp; omega)
  go_enter Tryz.func106, Tryz.ntmps106
  go_wp2_with fail
  refine (HI.out _).mono ?_
  rintro e w' ⟨rfl, m, rfl⟩
  go_wp2_with fail
  go_ret
  exact ⟨by rw [H.out]; rfl, _, rfl⟩
end
end Go.Proofs.YtmnojnopejhebaaGreat
