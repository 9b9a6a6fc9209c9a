/- Contracts of regs.Of, Show, Next, Taken, Do. -/
import Derived.Test.YtikflhigenijdaaRegsWalk
import Derived.Laws.CopyOwn
import Derived.Laws.Tables
import Derived.Laws.Rows
import Derived.Deep.WholeRow
namespace Go.Proofs.Ytikflhigenijdaa
open Go.RowKit

def nextZ (pc op imm : Int) (taken : Bool) : Int := if taken && (op == 14 || branchB op) then wrap64 (pc + imm) else wrap64 (pc + 1)

theorem next_any (pc op d n m imm kind : Int) (taken : Bool) (w : World) :
    Calls Try.prog 17 #[.int .i64 pc, instrV op d n m imm kind, .bool taken] w fun e w' => e = .returned (.int .i64 (nextZ pc op imm taken)) ∧ Below w.heap.size w w' := by
  cases ht : taken
  · have H := Lib.hid (show nextZ pc op imm false = wrap64 (pc + 1) by simp [nextZ])
    go_enter Try.func17, Try.ntmps17
    go_wp2
    go_ret
    exact ⟨ret_int H.out.symm, below_alloc (Below.refl _ _) _⟩
  · cases h1 : op == 14
    · cases h2 : branchB op
      · have H := Lib.hid (show nextZ pc op imm true = wrap64 (pc + 1) by simp [nextZ, h1, h2])
        go_enter Try.func17, Try.ntmps17
        go_wp2_with (go_at_call 32; refine (branch_any _ _ _ _ _ _ _).mono ?_; rintro e w' ⟨rfl, hb⟩)
        go_ret
        exact ⟨ret_int H.out.symm, below_trans (below_alloc (Below.refl _ _) _) hb⟩
      · have H := Lib.hid (show nextZ pc op imm true = wrap64 (pc + imm) by simp [nextZ, h1, h2])
        go_enter Try.func17, Try.ntmps17
        go_wp2_with fail
        refine (branch_any _ _ _ _ _ _ _).mono ?_
        rintro e w' ⟨rfl, hb⟩
        obtain ⟨hc, hf⟩ := bcell hb
        go_wp2
        go_ret
        exact ⟨ret_int H.out.symm, below_trans (below_alloc (Below.refl _ _) _) hb⟩
    · have H := Lib.hid (show nextZ pc op imm true = wrap64 (pc + imm) by simp [nextZ, h1])
      go_enter Try.func17, Try.ntmps17
      go_wp2
      go_ret
      exact ⟨ret_int H.out.symm, below_alloc (Below.refl _ _) _⟩


/-- What comes of a list that is given: as many as there are registers. -/
def ofX (zs : List Int) : List Int := (List.range 31).map (fun i => zs.getD i 0)
def zero35 : List Value := [.int .u64 0, .int .u64 0, .int .u64 0, .int .u64 0, .int .u64 0, .int .u64 0, .int .u64 0, .int .u64 0, .int .u64 0, .int .u64 0, .int .u64 0, .int .u64 0, .int .u64 0, .int .u64 0, .int .u64 0, .int .u64 0, .int .u64 0, .int .u64 0, .int .u64 0, .int .u64 0, .int .u64 0, .int .u64 0, .int .u64 0, .int .u64 0, .int .u64 0, .int .u64 0, .int .u64 0, .int .u64 0, .int .u64 0, .int .u64 0, .int .u64 0, .bool false, .int .u64 0, .int .u64 0, .int .u64 0]
theorem ofX_length (zs : List Int) : (ofX zs).length = 31 := by simp [ofX]
theorem splice_of (zs : List Int) : splice zero35 0 (u64s (zs.take 31)) = fileCells (ofX zs) false [0, 0, 0] := by
  have hl : (u64s (zs.take 31)).length ≤ 31 := by simp [u64s]; omega
  apply List.ext_getElem?
  intro i
  unfold splice fileCells
  rw [List.take_zero, List.nil_append, Nat.zero_add, List.append_assoc]
  have e : (u64s (ofX zs)).length = 31 := by simp [u64s, ofX]
  by_cases h1 : i < (u64s (zs.take 31)).length
  · have h2 : i < zs.length := by simp [u64s] at h1; omega
    have h3 : i < 31 := by omega
    rw [List.getElem?_append_left h1, List.getElem?_append_left (by omega)]
    simp [u64s, ofX, h2, h3]
  · rw [List.getElem?_append_right (by omega), List.getElem?_drop]
    have e2 : (u64s (zs.take 31)).length + (i - (u64s (zs.take 31)).length) = i := by omega
    rw [e2]
    by_cases h3 : i < 31
    · rw [List.getElem?_append_left (by omega)]
      have h4 : zs.length ≤ i := by simp [u64s] at h1; omega
      have e3 : (u64s (ofX zs))[i]? = some (.int .u64 0) := by simp [u64s, ofX, h3, List.getElem?_eq_none h4]
      rw [e3, show zero35 = u64s (List.replicate 31 0) ++ ([.bool false] ++ u64s [0, 0, 0]) from rfl, List.getElem?_append_left (by simp [u64s]; omega), u64s, List.getElem?_map, List.getElem?_replicate, if_pos h3]
      rfl
    · rw [List.getElem?_append_right (by omega), e, show zero35 = u64s (List.replicate 31 0) ++ ([.bool false] ++ u64s [0, 0, 0]) from rfl, List.getElem?_append_right (by simp [u64s]; omega)]
      simp [u64s]

theorem one_cells (x : List Int) (same : Bool) (sys : List Int) : (fileCells x same sys).toArray.all (·.oneCell') = true := by
  rw [Array.all_eq_true_iff_forall_mem]
  intro v hv
  simp only [List.mem_toArray, fileCells, u64s, List.mem_append, List.mem_map, List.mem_singleton] at hv
  rcases hv with (⟨z, _, rfl⟩ | rfl) | ⟨z, _, rfl⟩ <;> rfl

theorem size_file : (Try.prog.info? 30).map (·.size) = some 35 := by kernel_rfl

set_option maxRecDepth 100000 in
theorem of_any (p : Option Addr) (zs : List Int) (cap : Nat) (w : World) (hz : zs.length ≤ 9223372036854775807)
    (hc : zs = [] ∨ ∃ b off, p = some ⟨b, off, none⟩ ∧ ∀ j, j < zs.length → w.cell? ⟨b, off + j, none⟩ = some (.int .u64 (zs.getD j 0))) :
    Calls Try.prog 33 #[.slice p zs.length cap] w fun e w' => e = .returned (.agg (fileCells (ofX zs) false [0, 0, 0]).toArray) ∧ Below w.heap.size w w' := by
  have hsrc : 0 < (u64s (zs.take 31)).length → ∃ ad, p = some ad ∧ ∀ j v, (u64s (zs.take 31))[j]? = some v → ((w.alloc (.cells #[.int .u64 0, .int .u64 0, .int .u64 0, .int .u64 0, .int .u64 0, .int .u64 0, .int .u64 0, .int .u64 0, .int .u64 0, .int .u64 0, .int .u64 0, .int .u64 0, .int .u64 0, .int .u64 0, .int .u64 0, .int .u64 0, .int .u64 0, .int .u64 0, .int .u64 0, .int .u64 0, .int .u64 0, .int .u64 0, .int .u64 0, .int .u64 0, .int .u64 0, .int .u64 0, .int .u64 0, .int .u64 0, .int .u64 0, .int .u64 0, .int .u64 0, .bool false, .int .u64 0, .int .u64 0, .int .u64 0] 30)).alloc (.cells #[.int .u64 0, .int .u64 0, .int .u64 0, .int .u64 0, .int .u64 0, .int .u64 0, .int .u64 0, .int .u64 0, .int .u64 0, .int .u64 0, .int .u64 0, .int .u64 0, .int .u64 0, .int .u64 0, .int .u64 0, .int .u64 0, .int .u64 0, .int .u64 0, .int .u64 0, .int .u64 0, .int .u64 0, .int .u64 0, .int .u64 0, .int .u64 0, .int .u64 0, .int .u64 0, .int .u64 0, .int .u64 0, .int .u64 0, .int .u64 0, .int .u64 0, .bool false, .int .u64 0, .int .u64 0, .int .u64 0] 30)).cell? (ad.add j) = some v := by
    intro hpos
    rcases hc with rfl | ⟨b, off, rfl, hc⟩
    · simp [u64s] at hpos
    · refine ⟨_, rfl, fun j v hj => ?_⟩
      have hjl : j < (u64s (zs.take 31)).length := by
        rcases Nat.lt_or_ge j (u64s (zs.take 31)).length with h | h
        · exact h
        · rw [List.getElem?_eq_none h] at hj; cases hj
      have hjz : j < zs.length := by simp [u64s] at hjl; omega
      have hj31 : j < 31 := by simp [u64s] at hjl; omega
      have h1 := hc j hjz
      have hlt : b < w.heap.size := World.block_lt_of_cell? w _ h1
      rw [addr_add, World.cell?_alloc_past _ _ _ (by simp; omega), World.cell?_alloc_past _ _ _ hlt, h1, ← hj]
      simp [u64s, hjz, hj31]
  have HS := Lib.hid hsrc
  have HZ := Lib.hid hz
  clear hsrc hz hc
  have hn : (u64s (zs.take 31)).length = Nat.min zs.length 31 := by simp [u64s]; exact Nat.min_comm _ _
  have HN := Lib.hid hn
  clear hn
  go_enter Try.func33, Try.ntmps33
  go_wp2_with (refine wpList_copy_splice rfl (.tmp 5) (.tmp 6) 22 22 rfl 23 Try.underlying22 (by kernel_rfl) (some ⟨w.heap.size + 1, 0, none⟩) p 31 31 zs.length cap rfl rfl (w.heap.size + 1) 0 [.int .u64 0, .int .u64 0, .int .u64 0, .int .u64 0, .int .u64 0, .int .u64 0, .int .u64 0, .int .u64 0, .int .u64 0, .int .u64 0, .int .u64 0, .int .u64 0, .int .u64 0, .int .u64 0, .int .u64 0, .int .u64 0, .int .u64 0, .int .u64 0, .int .u64 0, .int .u64 0, .int .u64 0, .int .u64 0, .int .u64 0, .int .u64 0, .int .u64 0, .int .u64 0, .int .u64 0, .int .u64 0, .int .u64 0, .int .u64 0, .int .u64 0, .bool false, .int .u64 0, .int .u64 0, .int .u64 0] 30 (heap_alloc2_new w _ _) (u64s (zs.take 31)) HN.out (fun h => ⟨rfl, HS.out h⟩) (by simp [u64s]; omega) (by intro v hv; simp only [u64s, List.mem_map] at hv; obtain ⟨z, _, rfl⟩ := hv; rfl) (w.heap.size + 1) ((w.alloc (.cells #[.int .u64 0, .int .u64 0, .int .u64 0, .int .u64 0, .int .u64 0, .int .u64 0, .int .u64 0, .int .u64 0, .int .u64 0, .int .u64 0, .int .u64 0, .int .u64 0, .int .u64 0, .int .u64 0, .int .u64 0, .int .u64 0, .int .u64 0, .int .u64 0, .int .u64 0, .int .u64 0, .int .u64 0, .int .u64 0, .int .u64 0, .int .u64 0, .int .u64 0, .int .u64 0, .int .u64 0, .int .u64 0, .int .u64 0, .int .u64 0, .int .u64 0, .bool false, .int .u64 0, .int .u64 0, .int .u64 0] 30)).alloc (.cells #[.int .u64 0, .int .u64 0, .int .u64 0, .int .u64 0, .int .u64 0, .int .u64 0, .int .u64 0, .int .u64 0, .int .u64 0, .int .u64 0, .int .u64 0, .int .u64 0, .int .u64 0, .int .u64 0, .int .u64 0, .int .u64 0, .int .u64 0, .int .u64 0, .int .u64 0, .int .u64 0, .int .u64 0, .int .u64 0, .int .u64 0, .int .u64 0, .int .u64 0, .int .u64 0, .int .u64 0, .int .u64 0, .int .u64 0, .int .u64 0, .int .u64 0, .bool false, .int .u64 0, .int .u64 0, .int .u64 0] 30)) (Below.refl _ _) (Nat.le_refl _) ?_)
  intro w1 hg0 hb1
  have hg1 : w1.heap[w.heap.size + 1]? = some (.cells (fileCells (ofX zs) false [0, 0, 0]).toArray 30 (0, 0)) := by rw [← splice_of]; exact hg0
  have hgA : w1.heap[w.heap.size]? = some (.cells #[.int .u64 0, .int .u64 0, .int .u64 0, .int .u64 0, .int .u64 0, .int .u64 0, .int .u64 0, .int .u64 0, .int .u64 0, .int .u64 0, .int .u64 0, .int .u64 0, .int .u64 0, .int .u64 0, .int .u64 0, .int .u64 0, .int .u64 0, .int .u64 0, .int .u64 0, .int .u64 0, .int .u64 0, .int .u64 0, .int .u64 0, .int .u64 0, .int .u64 0, .int .u64 0, .int .u64 0, .int .u64 0, .int .u64 0, .int .u64 0, .int .u64 0, .bool false, .int .u64 0, .int .u64 0, .int .u64 0] 30 (0, 0)) := (hb1.block _ (by omega)).trans (heap_alloc2_old w _ _)
  have hsz : (fileCells (ofX zs) false [0, 0, 0]).toArray.size = 35 := by
    rw [List.size_toArray]; exact fileCells_length (ofX_length zs) rfl
  have hi : (Try.prog.info? 30).map (·.size) = some (fileCells (ofX zs) false [0, 0, 0]).toArray.size := by rw [hsz]; exact size_file
  have hone := one_cells (ofX zs) false [0, 0, 0]
  have hbb : Below w.heap.size w w1 := (below_alloc (below_alloc (Below.refl _ _) _) _).trans (hb1.mono (by omega))
  have HG := Lib.hid hg1
  have HA := Lib.hid hgA
  have HSZ := Lib.hid hsz
  have HI := Lib.hid hi
  have HO := Lib.hid hone
  clear hg0 hg1 hgA hsz hi hone hb1 HN HS
  generalize hcs : (fileCells (ofX zs) false [0, 0, 0]).toArray = cs at *
  have HCS := Lib.hid hcs
  clear hcs
  go_wp2_with (first | (refine wpList_load_row rfl 30 (.tmp 3) rfl (w.heap.size + 1) rfl 30 _ (0, 0) _ HG.out Try.underlying30 rfl HI.out ?_) | (refine wpList_store_row rfl 30 (.tmp 2) (.tmp 8) rfl w.heap.size cs rfl rfl 30 _ HA.out HI.out (by rw [HSZ.out]; rfl) HO.out ?_))
  refine bodyPost_ret (results_cell_row rfl _ _ w.heap.size 30 cs (0, 0) _ rfl (setRow_heap _ _ _ _ _ _ HA.out) Try.underlying30 rfl HI.out) rfl ⟨ret_val (congrArg Value.agg HCS.out.symm), below_setRow hbb (Nat.le_refl _) _⟩

end Go.Proofs.Ytikflhigenijdaa
