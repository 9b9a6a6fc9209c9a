/- The contract of the law's file. -/
import Derived.Test.YtikflhigenijdaaRegsFile
import Derived.RegionTactic
import Derived.Deep.RegionHeld
namespace Go.Proofs.Ytikflhigenijdaa
open Go.RowKit
set_option linter.unusedVariables false

theorem exec_load_row {P : Program} {o : Oper} {a : Act} {w : World} (ty : TypeId) (x : Operand) (ho : o.op = .load ty x)
    (g : Nat) (hx : a.eval x = .pointer (some ⟨g, 0, none⟩)) (t : TypeId) (cs : Array Value) (fr : Nat × Nat) (d : TypeDesc) (hg : w.heap[g]? = some (.cells cs t fr))
    (hu : P.underlying ty = some d) (hd : (match d with | .struct _ | .array _ _ => true | _ => false) = true) (hi : (P.info? ty).map (·.size) = some cs.size) :
    (execOp a.eval o).run P w = .ok (.value (.agg cs)) w := by
  unfold execOp
  simp only [ho, hx, Instr.loadAt, Instr.sureAddr, Sem.run_bind, Sem.run_pure, Result.andThen_ok, run_loadVar_row w g t ty cs fr d hg hu hd hi]

theorem results_cell2_row {P : Program} {fn : Func} {p q : Tmp} {ty ty2 : TypeId} (h : fn.results = #[.cell p ty, .cell q ty2]) (tmps : Array Value) (w : World) (g g2 : Nat) (t t2 : TypeId) (cs cs2 : Array Value) (fr fr2 : Nat × Nat) (d d2 : TypeDesc)
    (hp : tmps.getD p undef = .pointer (some ⟨g, 0, none⟩)) (hg : w.heap[g]? = some (.cells cs t fr)) (hq : tmps.getD q undef = .pointer (some ⟨g2, 0, none⟩)) (hg2 : w.heap[g2]? = some (.cells cs2 t2 fr2))
    (hu : P.underlying ty = some d) (hd : (match d with | .struct _ | .array _ _ => true | _ => false) = true) (hi : (P.info? ty).map (·.size) = some cs.size)
    (hu2 : P.underlying ty2 = some d2) (hd2 : (match d2 with | .struct _ | .array _ _ => true | _ => false) = true) (hi2 : (P.info? ty2).map (·.size) = some cs2.size) :
    (results fn tmps).run P w = .ok (.tuple #[.agg cs, .agg cs2]) w := by
  simp only [results, h]
  have hp' : tmps[p]?.getD undef = .pointer (some ⟨g, 0, none⟩) := by simpa using hp
  have hq' : tmps[q]?.getD undef = .pointer (some ⟨g2, 0, none⟩) := by simpa using hq
  simp [Sem.run_bind, hp', hq', asAddr, run_loadVar_row w g t ty cs fr d hg hu hd hi, run_loadVar_row w g2 t2 ty2 cs2 fr2 d2 hg2 hu2 hd2 hi2]

theorem FileAt.setSys {w : World} {T : TypeId} {g : Nat} {x : List Int} {same : Bool} {sys : List Int} (h : FileAt w T g x same sys) (k : Nat) (hk : k < 3) (v : Int) :
    FileAt (w.setCell ⟨g, 32 + k, none⟩ (.int .u64 v)) T g x same (sys.set k v) := by
  have hl := h.2.1
  refine ⟨?_, h.2.1, by simpa using h.2.2⟩
  rw [heap_setCell_same w g (32 + k) _ T _ h.1]
  congr 2
  apply Array.toList_inj.1
  rw [Array.toList_setIfInBounds]
  have e : (u64s x ++ [Value.bool same]).length = 32 := by simp [u64s]; omega
  show (u64s x ++ [Value.bool same] ++ u64s sys).set (32 + k) (.int .u64 v) = u64s x ++ [Value.bool same] ++ u64s (sys.set k v)
  rw [List.set_append_right _ _ (by omega), e, Nat.add_sub_cancel_left]
  simp [u64s, List.map_set]
theorem FileAt.filled {w : World} {T : TypeId} {g : Nat} {x : List Int} {s : Bool} {sys : List Int} (h : FileAt w T g x s sys) (same : Bool) (a b c : Int) :
    FileAt ((((w.setCell ⟨g, 31, none⟩ (.bool same)).setCell ⟨g, 32, none⟩ (.int .u64 a)).setCell ⟨g, 33, none⟩ (.int .u64 b)).setCell ⟨g, 34, none⟩ (.int .u64 c)).drew T g x same [a, b, c] := by
  have h2 := (((h.setFlag same).setSys 0 (by omega) a).setSys 1 (by omega) b).setSys 2 (by omega) c
  have hs := h.2.2
  match sys, hs with
  | [_, _, _], _ => exact h2

set_option maxRecDepth 100000 in
set_option maxHeartbeats 800000 in
theorem file_any (p : Option Addr) (zs : List Int) (cap : Nat) (same : Bool) (a b c : Int) (w : World) (hz : zs.length ≤ 9223372036854775807)
    (hc : SrcAt w p zs) :
    Calls Try.prog 9 #[.agg #[.slice p zs.length cap, .bool same, .int .u64 a, .int .u64 b, .int .u64 c]] w fun e w' => ∃ v q, e = .returned (.tuple #[.agg (fileCells (ofX zs) same [a, b, c]).toArray, .agg #[v, .bool same, .slice q 3 3]]) ∧ w'.ownsRow w.heap.size 23 1 v 31 (u64s (ofX zs)) ∧ Below w.heap.size w w' := by
  have HC := Lib.hid hc
  clear hc
  go_enter Try.func9, Try.ntmps9
  go_wp2_with fail
  refine (of_any _ zs _ _ hz (HC.out.below (below_alloc (below_alloc (below_alloc (Below.refl _ _) _) _) _)).one).mono ?_
  rintro e w1 ⟨rfl, hb⟩
  have HB := Lib.hid hb
  clear hb
  have HI := Lib.hid (file_size (same := false) (ofX_length zs) (sys := [0, 0, 0]) rfl)
  have HO := Lib.hid (one_cells (ofX zs) false [0, 0, 0])
  have HS := Lib.hid (show (fileCells (ofX zs) false [0, 0, 0]).toArray.size = 35 by rw [List.size_toArray]; exact fileCells_length (ofX_length _) rfl)
  generalize hcs : (fileCells (ofX zs) false [0, 0, 0]).toArray = cs at *
  have HCS := Lib.hid hcs
  clear hcs
  go_wp2_with (refine wpList_store_row rfl 30 (.tmp 4) (.tmp 7) rfl w1.heap.size cs rfl rfl 30 _ (heap_alloc_new w1 _) HI.out (by rw [HS.out]; rfl) HO.out ?_)
  have hf2 := FileAt.stored (w1 := w1) (T := 30) (Z := #[.int .u64 0, .int .u64 0, .int .u64 0, .int .u64 0, .int .u64 0, .int .u64 0, .int .u64 0, .int .u64 0, .int .u64 0, .int .u64 0, .int .u64 0, .int .u64 0, .int .u64 0, .int .u64 0, .int .u64 0, .int .u64 0, .int .u64 0, .int .u64 0, .int .u64 0, .int .u64 0, .int .u64 0, .int .u64 0, .int .u64 0, .int .u64 0, .int .u64 0, .int .u64 0, .int .u64 0, .int .u64 0, .int .u64 0, .int .u64 0, .int .u64 0, .bool false, .int .u64 0, .int .u64 0, .int .u64 0]) HCS.out (ofX_length zs) (sys := [0, 0, 0]) rfl
  have hA0 := ((Blk.new w 26 [.slice p zs.length cap, .bool same, .int .u64 a, .int .u64 b, .int .u64 c]).alloc (.cells #[.int .u64 0, .int .u64 0, .int .u64 0, .int .u64 0, .int .u64 0, .int .u64 0, .int .u64 0, .int .u64 0, .int .u64 0, .int .u64 0, .int .u64 0, .int .u64 0, .int .u64 0, .int .u64 0, .int .u64 0, .int .u64 0, .int .u64 0, .int .u64 0, .int .u64 0, .int .u64 0, .int .u64 0, .int .u64 0, .int .u64 0, .int .u64 0, .int .u64 0, .int .u64 0, .int .u64 0, .int .u64 0, .int .u64 0, .int .u64 0, .int .u64 0, .bool false, .int .u64 0, .int .u64 0, .int .u64 0] 30)).alloc (.cells #[.slice none 0 0, .bool false, .slice none 0 0] 32)
  have hR0 : Blk (((w.alloc (.cells #[.slice p zs.length cap, .bool same, .int .u64 a, .int .u64 b, .int .u64 c] 26)).alloc (.cells #[.int .u64 0, .int .u64 0, .int .u64 0, .int .u64 0, .int .u64 0, .int .u64 0, .int .u64 0, .int .u64 0, .int .u64 0, .int .u64 0, .int .u64 0, .int .u64 0, .int .u64 0, .int .u64 0, .int .u64 0, .int .u64 0, .int .u64 0, .int .u64 0, .int .u64 0, .int .u64 0, .int .u64 0, .int .u64 0, .int .u64 0, .int .u64 0, .int .u64 0, .int .u64 0, .int .u64 0, .int .u64 0, .int .u64 0, .int .u64 0, .int .u64 0, .bool false, .int .u64 0, .int .u64 0, .int .u64 0] 30)).alloc (.cells #[.slice none 0 0, .bool false, .slice none 0 0] 32)) 32 (w.heap.size + 2) [.slice none 0 0, .bool false, .slice none 0 0] := by
    have := Blk.new ((w.alloc (.cells #[.slice p zs.length cap, .bool same, .int .u64 a, .int .u64 b, .int .u64 c] 26)).alloc (.cells #[.int .u64 0, .int .u64 0, .int .u64 0, .int .u64 0, .int .u64 0, .int .u64 0, .int .u64 0, .int .u64 0, .int .u64 0, .int .u64 0, .int .u64 0, .int .u64 0, .int .u64 0, .int .u64 0, .int .u64 0, .int .u64 0, .int .u64 0, .int .u64 0, .int .u64 0, .int .u64 0, .int .u64 0, .int .u64 0, .int .u64 0, .int .u64 0, .int .u64 0, .int .u64 0, .int .u64 0, .int .u64 0, .int .u64 0, .int .u64 0, .int .u64 0, .bool false, .int .u64 0, .int .u64 0, .int .u64 0] 30)) 32 [.slice none 0 0, .bool false, .slice none 0 0]
    simpa using this
  have hF0 : Blk (((w.alloc (.cells #[.slice p zs.length cap, .bool same, .int .u64 a, .int .u64 b, .int .u64 c] 26)).alloc (.cells #[.int .u64 0, .int .u64 0, .int .u64 0, .int .u64 0, .int .u64 0, .int .u64 0, .int .u64 0, .int .u64 0, .int .u64 0, .int .u64 0, .int .u64 0, .int .u64 0, .int .u64 0, .int .u64 0, .int .u64 0, .int .u64 0, .int .u64 0, .int .u64 0, .int .u64 0, .int .u64 0, .int .u64 0, .int .u64 0, .int .u64 0, .int .u64 0, .int .u64 0, .int .u64 0, .int .u64 0, .int .u64 0, .int .u64 0, .int .u64 0, .int .u64 0, .bool false, .int .u64 0, .int .u64 0, .int .u64 0] 30)).alloc (.cells #[.slice none 0 0, .bool false, .slice none 0 0] 32)) 30 (w.heap.size + 1) zero35 := by
    have := (Blk.new (w.alloc (.cells #[.slice p zs.length cap, .bool same, .int .u64 a, .int .u64 b, .int .u64 c] 26)) 30 zero35).alloc (.cells #[.slice none 0 0, .bool false, .slice none 0 0] 32)
    rw [World.size_alloc] at this
    exact this
  have hb3 := HB.out.alloc (Nat.le_trans (by simp) HB.out.size) (.cells #[.int .u64 0, .int .u64 0, .int .u64 0, .int .u64 0, .int .u64 0, .int .u64 0, .int .u64 0, .int .u64 0, .int .u64 0, .int .u64 0, .int .u64 0, .int .u64 0, .int .u64 0, .int .u64 0, .int .u64 0, .int .u64 0, .int .u64 0, .int .u64 0, .int .u64 0, .int .u64 0, .int .u64 0, .int .u64 0, .int .u64 0, .int .u64 0, .int .u64 0, .int .u64 0, .int .u64 0, .int .u64 0, .int .u64 0, .int .u64 0, .int .u64 0, .bool false, .int .u64 0, .int .u64 0, .int .u64 0] 30)
  have hb4 := below_setRow hb3 HB.out.size cs
  have hA := hA0.below hb4
  have hR := hR0.below hb4
  have hF := hF0.below hb4
  have hbw : Below w.heap.size w ((w1.alloc (.cells #[.int .u64 0, .int .u64 0, .int .u64 0, .int .u64 0, .int .u64 0, .int .u64 0, .int .u64 0, .int .u64 0, .int .u64 0, .int .u64 0, .int .u64 0, .int .u64 0, .int .u64 0, .int .u64 0, .int .u64 0, .int .u64 0, .int .u64 0, .int .u64 0, .int .u64 0, .int .u64 0, .int .u64 0, .int .u64 0, .int .u64 0, .int .u64 0, .int .u64 0, .int .u64 0, .int .u64 0, .int .u64 0, .int .u64 0, .int .u64 0, .int .u64 0, .bool false, .int .u64 0, .int .u64 0, .int .u64 0] 30)).setRow w1.heap.size cs) :=
    (below_alloc (below_alloc (below_alloc (Below.refl _ _) _) _) _).trans (hb4.mono (by simp; omega))
  have hgs : w.heap.size + 3 ≤ w1.heap.size := by have := HB.out.size; simp at this; omega
  generalize hw2 : (w1.alloc (.cells #[.int .u64 0, .int .u64 0, .int .u64 0, .int .u64 0, .int .u64 0, .int .u64 0, .int .u64 0, .int .u64 0, .int .u64 0, .int .u64 0, .int .u64 0, .int .u64 0, .int .u64 0, .int .u64 0, .int .u64 0, .int .u64 0, .int .u64 0, .int .u64 0, .int .u64 0, .int .u64 0, .int .u64 0, .int .u64 0, .int .u64 0, .int .u64 0, .int .u64 0, .int .u64 0, .int .u64 0, .int .u64 0, .int .u64 0, .int .u64 0, .int .u64 0, .bool false, .int .u64 0, .int .u64 0, .int .u64 0] 30)).setRow w1.heap.size cs = w2 at *
  generalize w1.heap.size = g at *
  clear hw2 hb3 hb4 HB hA0 hR0 hF0 HI HO HS HCS
  have a0 := hA.cell 0
  have a1 := hA.cell 1
  have a2 := hA.cell 2
  have a3 := hA.cell 3
  have a4 := hA.cell 4
  simp only [List.getElem?_cons_zero, List.getElem?_cons_succ] at a0 a1 a2 a3 a4
  have fl := hf2.flag
  have f0 := hf2.sysAt 0 (by omega)
  have f1 := hf2.sysAt 1 (by omega)
  have f2 := hf2.sysAt 2 (by omega)
  simp only [List.getD_cons_zero, List.getD_cons_succ, Nat.add_zero, Nat.reduceAdd] at f0 f1 f2
  have z0 := hf2.free 31
  have z1 := hf2.free 32
  have z2 := hf2.free 33
  have z3 := hf2.free 34
  have HF := Lib.hid hf2
  have HA := Lib.hid hA
  have HR := Lib.hid hR
  have HF0 := Lib.hid hF
  have HBW := Lib.hid hbw
  clear hf2 hA hR hF hbw
  have HF2 := Lib.hid (HF.out.filled same a b c)
  have HA2 := Lib.hid (((((HA.out.other (p := ⟨g, 31, none⟩) (by simp; omega) (.bool same)).other (p := ⟨g, 32, none⟩) (by simp; omega) (.int .u64 a)).other (p := ⟨g, 33, none⟩) (by simp; omega) (.int .u64 b)).other (p := ⟨g, 34, none⟩) (by simp; omega) (.int .u64 c)).dn 1)
  have HR2 := Lib.hid (((((HR.out.other (p := ⟨g, 31, none⟩) (by simp; omega) (.bool same)).other (p := ⟨g, 32, none⟩) (by simp; omega) (.int .u64 a)).other (p := ⟨g, 33, none⟩) (by simp; omega) (.int .u64 b)).other (p := ⟨g, 34, none⟩) (by simp; omega) (.int .u64 c)).dn 1)
  have HZ2 := Lib.hid (((((HF0.out.other (p := ⟨g, 31, none⟩) (by simp; omega) (.bool same)).other (p := ⟨g, 32, none⟩) (by simp; omega) (.int .u64 a)).other (p := ⟨g, 33, none⟩) (by simp; omega) (.int .u64 b)).other (p := ⟨g, 34, none⟩) (by simp; omega) (.int .u64 c)).dn 1)
  have HW2 := Lib.hid (((((HBW.out.setCell (p := ⟨g, 31, none⟩) (by simp; omega) (.bool same)).setCell (p := ⟨g, 32, none⟩) (by simp; omega) (.int .u64 a)).setCell (p := ⟨g, 33, none⟩) (by simp; omega) (.int .u64 b)).setCell (p := ⟨g, 34, none⟩) (by simp; omega) (.int .u64 c)).drew)
  go_region
  all_goals
    clear HF HA HR HF0 HBW fl f0 f1 f2 z0 z1 z2 z3 a0 a1 a2 a3 a4
    go_wp2_with fail
    generalize (((w2.setCell ⟨g, 31, none⟩ (.bool same)).setCell ⟨g, 32, none⟩ (.int .u64 a)).setCell ⟨g, 33, none⟩ (.int .u64 b)).setCell ⟨g, 34, none⟩ (.int .u64 c) = w3 at *
    obtain ⟨cs3, hcs3⟩ : ∃ cs3, (fileCells (ofX zs) same [a, b, c]).toArray = cs3 := ⟨_, rfl⟩
    have hI := file_size (same := same) (ofX_length zs) (sys := [a, b, c]) rfl
    have hO := one_cells (ofX zs) same [a, b, c]
    have hS : (fileCells (ofX zs) same [a, b, c]).toArray.size = 35 := by rw [List.size_toArray]; exact fileCells_length (ofX_length _) rfl
    have hF := HF2.out.1
    rw [hcs3] at hI hO hS hF
    have HI := Lib.hid hI
    have HO := Lib.hid hO
    have HS := Lib.hid hS
    have HCS := Lib.hid hcs3
    have HF := Lib.hid hF
    have HF2' := Lib.hid HF2.out
    clear hI hO hS hF hcs3 HF2
    have b0 : w3.cell? ⟨w.heap.size, 0, none⟩ = some (.slice p zs.length cap) := HA2.out.cell 0
    have b1 : w3.cell? ⟨w.heap.size, 1, none⟩ = some (.bool same) := HA2.out.cell 1
    refine wp_region_held_drew (S := fun w' => w'.heap[g]? = some (.cells cs3 30 (0, 0)) ∧ w'.cell? ⟨w.heap.size, 0, none⟩ = some (.slice p zs.length cap) ∧ w'.cell? ⟨w.heap.size, 1, none⟩ = some (.bool same)) (by kernel_rfl) ⟨HF.out, b0, b1⟩ (fun hHeld => ?_)
    refine wpAnyH_take (i := 0) (oi := ⟨some 14, _, _, _, _, _⟩) (v := .agg cs3) rfl (by kernel_rfl) (by kernel_rfl) (by kernel_rfl) (fun _ _ _ h => h) (Or.inl ⟨by rfl, fun w' hSw => exec_load_row 30 (.tmp 4) rfl g rfl 30 cs3 (0, 0) _ hSw.1 Try.underlying30 rfl HI.out⟩) (by assumption) ?_
    simp only [Act.put, List.setIfInBounds_toArray, List.set_cons_zero, List.set_cons_succ]
    refine wpAnyH_take (i := 1) (oi := ⟨some 15, _, _, _, _, _⟩) (v := ?_) rfl (by kernel_rfl) (by kernel_rfl) (by kernel_rfl) (fun _ _ _ h => h) (Or.inl ⟨by rfl, ?_⟩) (by assumption) ?_
    rotate_left
    · (intro w hSw; (try dsimp only at hSw); go_simp; try with_reducible rfl)
    simp only [Act.put, List.setIfInBounds_toArray, List.set_cons_zero, List.set_cons_succ]
    refine wpAnyH_take (i := 2) (oi := ⟨some 16, _, _, _, _, _⟩) (v := ?_) rfl (by kernel_rfl) (by kernel_rfl) (by kernel_rfl) (fun _ _ _ h => h) (Or.inl ⟨by rfl, ?_⟩) (by assumption) ?_
    rotate_left
    · (intro w hSw; (try dsimp only at hSw); go_simp; try with_reducible rfl)
    simp only [Act.put, List.setIfInBounds_toArray, List.set_cons_zero, List.set_cons_succ]
    refine wpAnyH_take (i := 3) (oi := ⟨some 17, _, _, _, _, _⟩) (v := ?_) rfl (by kernel_rfl) (by kernel_rfl) (by kernel_rfl) (fun _ _ _ h => h) (Or.inl ⟨by rfl, ?_⟩) (by assumption) ?_
    rotate_left
    · (intro w hSw; (try dsimp only at hSw); go_simp; try with_reducible rfl)
    simp only [Act.put, List.setIfInBounds_toArray, List.set_cons_zero, List.set_cons_succ]
    refine wpAnyH_take (i := 4) (oi := ⟨some 18, _, _, _, _, _⟩) (v := ?_) rfl (by kernel_rfl) (by kernel_rfl) (by kernel_rfl) (fun _ _ _ h => h) (Or.inl ⟨by rfl, ?_⟩) (by assumption) ?_
    rotate_left
    · (intro w hSw; (try dsimp only at hSw); go_simp; try with_reducible rfl)
    simp only [Act.put, List.setIfInBounds_toArray, List.set_cons_zero, List.set_cons_succ]
    refine wpAnyH_take (i := 5) (oi := ⟨some 19, _, _, _, _, _⟩) (v := ?_) rfl (by kernel_rfl) (by kernel_rfl) (by kernel_rfl) (fun _ _ _ h => h) (Or.inl ⟨by rfl, ?_⟩) (by assumption) ?_
    rotate_left
    · (intro w hSw; (try dsimp only at hSw); go_simp; try with_reducible rfl)
    simp only [Act.put, List.setIfInBounds_toArray, List.set_cons_zero, List.set_cons_succ]
    refine wpAnyH_take (i := 6) (oi := ⟨some 20, _, _, _, _, _⟩) (v := ?_) rfl (by kernel_rfl) (by kernel_rfl) (by kernel_rfl) (fun _ _ _ h => h) (Or.inl ⟨by rfl, ?_⟩) (by assumption) ?_
    rotate_left
    · (intro w hSw; (try dsimp only at hSw); go_simp; try with_reducible rfl)
    simp only [Act.put, List.setIfInBounds_toArray, List.set_cons_zero, List.set_cons_succ]
    refine wpAnyH_ready (rs := [7]) (by kernel_rfl) (by simp) ?_
    refine AllReadyH.cons (o := ⟨some 21, _, _, _, _, _⟩) rfl (fun K hK => ?_) AllReadyH.nil
    go_simp
    go_at_call 34
    refine (rof_any p zs cap same _ _ _ _ hz (HC.out.below (HW2.out.drew))).mono ?_
    rintro e w4 ⟨v, rfl, hrow, hb4⟩
    have hF4 := (hb4.block g (HF2'.out.lt)).trans HF.out
    have c0 := (hb4.cell (p := ⟨w.heap.size, 0, none⟩) HA2.out.lt).trans b0
    have c1 := (hb4.cell (p := ⟨w.heap.size, 1, none⟩) HA2.out.lt).trans b1
    have HR4 := Lib.hid (show Blk w4 32 (w.heap.size + 2) [.slice none 0 0, .bool false, .slice none 0 0] from (hb4.block _ HR2.out.lt).trans HR2.out)
    have HZ4 := Lib.hid (show Blk w4 30 (w.heap.size + 1) zero35 from (hb4.block _ HZ2.out.lt).trans HZ2.out)
    obtain ⟨v0, vc, rfl⟩ : ∃ v0 vc, v = .slice (some ⟨v0, 0, none⟩) 31 vc := by
      obtain ⟨g', c', hv, _⟩ := own_open hrow (by omega)
      exact ⟨g', c', hv⟩
    have HROW := Lib.hid hrow
    have HW4 := Lib.hid (show Below w.heap.size w w4 from (HW2.out.drew).trans (hb4.mono HW2.out.size))
    have HF4 := Lib.hid hF4
    clear hrow hb4 hF4
    refine hK.out _ _ ⟨HF4.out, c0, c1⟩ ?_
    clear hK K hHeld
    intro hHeld
    refine wpAnyH_ready (rs := [8]) (by kernel_rfl) (by simp) ?_
    refine AllReadyH.cons (o := ⟨none, _, _, _, _, _⟩) rfl (fun K hK => ?_) AllReadyH.nil
    rw [if_pos (by rfl)]
    refine wp_store_row 30 (.tmp 2) (.tmp 14) rfl (w.heap.size + 1) cs3 rfl rfl 30 _ HZ4.out HI.out (by rw [HS.out]; rfl) HO.out ?_
    refine hK.out _ _ ⟨by rw [setRow_other _ _ _ _ (by omega)]; exact HF4.out, by rw [cell_setRow_other _ _ _ _ (by simp)]; exact c0, by rw [cell_setRow_other _ _ _ _ (by simp)]; exact c1⟩ ?_
    clear hK K hHeld
    intro hHeld
    refine wpAnyH_ready (rs := [9]) (by kernel_rfl) (by simp) ?_
    refine AllReadyH.cons (o := ⟨none, _, _, _, _, _⟩) rfl (fun K hK => ?_) AllReadyH.nil
    rw [if_pos (by rfl)]
    refine wp_store_row 32 (.tmp 3) (.tmp 21) rfl (w.heap.size + 2) #[.slice (some ⟨v0, 0, none⟩) 31 vc, .bool same, .slice (some ⟨w.heap.size, 2, none⟩) 3 3] rfl rfl 32 _ ((setRow_other _ _ _ _ (by omega)).trans HR4.out) (by kernel_rfl) rfl (by kernel_rfl) ?_
    refine hK.out _ _ ⟨by rw [setRow_other _ _ _ _ (by omega), setRow_other _ _ _ _ (by omega)]; exact HF4.out, by rw [cell_setRow_other _ _ _ _ (by simp), cell_setRow_other _ _ _ _ (by simp)]; exact c0, by rw [cell_setRow_other _ _ _ _ (by simp), cell_setRow_other _ _ _ _ (by simp)]; exact c1⟩ ?_
    clear hK K hHeld
    intro hHeld
    refine wpAnyH_done (by kernel_rfl) ?_ _
    go_wp2
    refine bodyPost_ret (results_cell2_row rfl _ _ (w.heap.size + 1) (w.heap.size + 2) 30 32 cs3 #[.slice (some ⟨v0, 0, none⟩) 31 vc, .bool same, .slice (some ⟨w.heap.size, 2, none⟩) 3 3] (0, 0) (0, 0) _ _ rfl ?_ rfl ?_ Try.underlying30 rfl HI.out Try.underlying32 rfl (by kernel_rfl)) rfl ⟨.slice (some ⟨v0, 0, none⟩) 31 vc, some ⟨w.heap.size, 2, none⟩, ?_, ?_, ?_⟩
    · rw [setRow_other _ _ _ _ (by omega)]; exact setRow_heap _ _ _ _ _ _ HZ4.out
    · exact setRow_heap _ _ _ _ _ _ ((setRow_other _ _ _ _ (by omega)).trans HR4.out)
    · exact ret_val (by rw [HCS.out])
    · exact ownsRow_mono (ownsRow_setRow_below (ownsRow_setRow_below HROW.out (show w.heap.size + 1 < w3.heap.size from by have := (show w.heap.size + 2 < w3.heap.size from HR2.out.lt); omega) _) (show w.heap.size + 2 < w3.heap.size from HR2.out.lt) _) HW2.out.size
    · exact below_setRow (below_setRow HW4.out (by omega) _) (by omega) _
end Go.Proofs.Ytikflhigenijdaa
