/- The page's example is read. -/
import Derived.Test.YtcaifejfkpmeeaaMgbe
namespace Go.Proofs.Ytcaifejfkpmeeaa
open Go.RowKit
set_option linter.unusedVariables false
set_option linter.unusedSimpArgs false

/-- What a source that was read holds, as far as the example asks. -/
structure AwF (w1 : World) (cs : Array Value) (gl nl cl gc cc : Nat) (pc : Option Addr) (ccc : Nat) (pt : Option Addr) (ct : Nat) : Prop where
  size : cs.size = 16
  one : cs.all (·.oneCell') = true
  c0 : cs[0]? = some (.string ⟨#[97]⟩)
  c1 : cs[1]? = some (.slice (some ⟨gl, 0, none⟩) (nl + 1) cl)
  c2 : cs[2]? = some (.slice (some ⟨gc, 0, none⟩) 1 cc)
  c10 : cs[10]? = some (.slice pt 1 ct)
  core : w1.cell? ⟨gc, 3, none⟩ = some (.slice pc 1 ccc)
  cell : w1.cell? ⟨gl, 1, none⟩ = some (.int .u64 8195)
  lc : gc < w1.heap.size
  ll : gl < w1.heap.size
theorem cellL_one : ∀ (l : List (Nat × Nat)) (a b : Nat) , (cellL ((a, b) :: l))[1]? = some (u64V b) := fun _ _ _ => rfl
theorem aw_facts {w w1 : World} {e : Ending} (h : LitPost litEx w e w1) : ∃ cs cb gl nl cl gc cc pc ccc pt ct, e = .returned (.tuple #[.agg cs, .agg #[.int .i64 0, .int .i64 cb]]) ∧ AwF w1 cs gl nl cl gc cc pc ccc pt ct ∧ Below w.heap.size w w1 := by
  have hok := litEx_ok
  unfold LitPost at h
  generalize litA litEx = y at *
  obtain ⟨x, ca, cb⟩ := y
  obtain ⟨f', v, rfl, hP, hs, hB⟩ := h
  unfold exOk at hok
  simp only [Bool.and_eq_true, decide_eq_true_eq] at hok
  obtain ⟨⟨⟨⟨h0, h1⟩, h2⟩, h3⟩, h4⟩ := hok
  rcases hco : x.cores with _ | ⟨c, l⟩
  · rw [hco] at h2; cases h2
  rcases l with _ | ⟨c', l⟩
  rotate_left
  · rw [hco] at h2; cases h2
  rw [hco] at h2
  have h2 : c.code.length = 1 := of_decide_eq_true h2
  rcases hce : x.cells with _ | ⟨⟨a, b⟩, l⟩
  · rw [hce] at h4; cases h4
  rw [hce] at h4
  have h4 : b = 8195 := of_decide_eq_true h4
  subst h4
  obtain ⟨gc, cc, hvo, _⟩ := hP.cores.some (by rw [hco]; simp)
  obtain ⟨gl, cl, hvc, _⟩ := hP.cells.some (by rw [hce]; simp)
  obtain ⟨pt, ct, hvt, _⟩ := own_form hP.tables.1
  have hlc := hP.lenc
  rw [hco] at hlc
  rcases hcv : v.cvs with _ | ⟨cv, lv⟩
  · rw [hcv] at hlc; cases hlc
  rcases lv with _ | ⟨cv', lv⟩
  rotate_left
  · rw [hcv] at hlc; simp at hlc
  have hcore := hP.core 0 (by rw [hco]; simp) (by rw [hcv]; simp)
  have e1 : v.cvs[0]'(by rw [hcv]; simp) = cv := by simp only [hcv]; rfl
  have e2 : x.cores[0]'(by rw [hco]; simp) = c := by simp only [hco]; rfl
  rw [e1, e2] at hcore
  obtain ⟨pc, ccc, hpc, _⟩ := own_form hcore.2.1.1
  have hcc := hP.cores
  rw [hco, hcv] at hcc
  have k := OwnL.cell hcc (j := 3) (by rw [hco] at hvo; exact hvo) (by simp)
  have hcl := hP.cells
  have hle : x.cells.length = l.length + 1 := by rw [hce]; rfl
  rw [hle, hce] at hcl
  have k2 := OwnL.cell hcl (j := 1) (by rw [hle] at hvc; exact hvc) (by omega)
  rw [hco] at hvo
  rw [hle] at hvc
  rw [h3] at hvt
  refine ⟨_, cb, gl, l.length, cl, gc, cc, pc, ccc, pt, ct, by rw [h0], ⟨rfl, all_oneCell_toArray (src_one hP), ?_, ?_, ?_, ?_, ?_, ?_, k.2.2, k2.2.2⟩, hB⟩
  · rw [← h1]; rfl
  · rw [← hvc]; rfl
  · rw [show (1 : Nat) = [c].length from rfl, ← hvo]; rfl
  · rw [← hvt]; rfl
  · rw [k.1]; show some cv.c = _; rw [hpc, h2]
  · rw [k2.1]; rfl
theorem aw_post {s : ByteArray} (hs : s = litEx) (w : World) : Calls Try.prog 6 #[.string s] w (fun e w1 => ∃ cs cb gl nl cl gc cc pc ccc pt ct, e = .returned (.tuple #[.agg cs, .agg #[.int .i64 0, .int .i64 cb]]) ∧ AwF w1 cs gl nl cl gc cc pc ccc pt ct ∧ Below w.heap.size w w1) := by
  subst hs
  exact (lparse_any litEx w (by decide)).mono fun e w1 h => aw_facts h
/-- The source's block and the problem's, behind their stores. -/
theorem stored2 (w1 : World) (A B : Obj) (T1 T2 : TypeId) (z1 z2 cs ps : Array Value) (hA : A = .cells z1 T1 (0, 0)) (hB : B = .cells z2 T2 (0, 0)) : Blk ((((w1.alloc A).alloc B).setRow w1.heap.size cs).setRow (w1.heap.size + 1) ps) T1 w1.heap.size cs.toList ∧ Blk ((((w1.alloc A).alloc B).setRow w1.heap.size cs).setRow (w1.heap.size + 1) ps) T2 (w1.heap.size + 1) ps.toList ∧ Below w1.heap.size w1 ((((w1.alloc A).alloc B).setRow w1.heap.size cs).setRow (w1.heap.size + 1) ps) := by
  subst hA hB
  refine ⟨?_, ?_, belowSetRow (belowSetRow (below_alloc (below_alloc (Below.refl _ _) _) _) (Nat.le_refl _) _) (by omega) _⟩
  · exact (setRow_other _ _ _ _ (by omega)).trans (setRow_heap _ _ _ _ _ _ (heap_alloc2_old w1 _ _))
  · exact setRow_heap _ _ _ _ _ _ ((setRow_other _ _ _ _ (by omega)).trans (heap_alloc2_new w1 _ _))
set_option maxRecDepth 100000 in
set_option maxHeartbeats 3200000 in
theorem awake_any (w : World) : Calls Try.prog 4 #[] w fun e w' => e = .returned (.bool true) ∧ Below w.heap.size w w' := by
  go_enter Try.func4, Try.ntmps4
  go_wp2_with fail
  refine (aw_post rfl _).mono ?_
  rintro e w1 ⟨cs, cb, gl, nl, cl, gc, cc, pc, ccc, pt, ct, rfl, hF, hb⟩
  obtain ⟨S1, S2, S3⟩ := stored2 w1 (.cells #[.string ⟨#[]⟩, .slice none 0 0, .slice none 0 0, .bool false, .int .i64 0, .int .i64 0, .int .i64 0, .int .u64 0, .int .u64 0, .slice none 0 0, .slice none 0 0, .slice none 0 0, .slice none 0 0, .slice none 0 0, .slice none 0 0, .int .i64 0] 39) (.cells #[.int .i64 0, .int .i64 0] 42) 39 42 _ _ cs #[.int .i64 0, .int .i64 cb] rfl rfl
  have HF := Lib.hid hF
  have HB := Lib.hid (below_trans hb (S3.mono (by have := hb.size; omega)))
  have d0 := S1.cell 0
  have d1 := S1.cell 1
  have d2 := S1.cell 2
  have d10 := S1.cell 10
  have p0 := S2.cell 0
  have p1 := S2.cell 1
  have l1 := S1.lt
  have l2 := S2.lt
  have x1 := (World.cell?_of_block (a := ⟨gc, 3, none⟩) (S3.block gc hF.lc)).trans hF.core
  have x2 := (World.cell?_of_block (a := ⟨gl, 1, none⟩) (S3.block gl hF.ll)).trans hF.cell
  have x3 : gc < ((((w1.alloc (.cells #[.string ⟨#[]⟩, .slice none 0 0, .slice none 0 0, .bool false, .int .i64 0, .int .i64 0, .int .i64 0, .int .u64 0, .int .u64 0, .slice none 0 0, .slice none 0 0, .slice none 0 0, .slice none 0 0, .slice none 0 0, .slice none 0 0, .int .i64 0] 39)).alloc (.cells #[.int .i64 0, .int .i64 0] 42)).setRow w1.heap.size cs).setRow (w1.heap.size + 1) #[.int .i64 0, .int .i64 cb]).heap.size := Nat.lt_of_lt_of_le hF.lc S3.size
  have x4 : gl < ((((w1.alloc (.cells #[.string ⟨#[]⟩, .slice none 0 0, .slice none 0 0, .bool false, .int .i64 0, .int .i64 0, .int .i64 0, .int .u64 0, .int .u64 0, .slice none 0 0, .slice none 0 0, .slice none 0 0, .slice none 0 0, .slice none 0 0, .slice none 0 0, .int .i64 0] 39)).alloc (.cells #[.int .i64 0, .int .i64 0] 42)).setRow w1.heap.size cs).setRow (w1.heap.size + 1) #[.int .i64 0, .int .i64 cb]).heap.size := Nat.lt_of_lt_of_le hF.ll S3.size
  have hi39 := Lib.hid (show (Try.prog.info? 39).map (·.size) = some cs.size by rw [hF.size]; kernel_rfl)
  simp only [Array.getElem?_toList, hF.c0, hF.c1, hF.c2, hF.c10] at d0 d1 d2 d10
  simp only [List.getElem?_cons_zero, List.getElem?_cons_succ] at p0 p1
  have hnl : (0 : Int) < (nl : Int) + 1 := by omega
  clear hF hb S1 S2 S3
  go_wp2_with (first | (refine wpList_store_row rfl 39 (.tmp 1) (.tmp 5) rfl w1.heap.size cs rfl rfl 39 _ (heap_alloc2_old w1 _ _) hi39.out (by rw [HF.out.size]; rfl) HF.out.one ?_) | (refine wpList_store_row rfl 42 (.tmp 2) (.tmp 6) rfl (w1.heap.size + 1) #[.int .i64 0, .int .i64 cb] rfl rfl 42 _ ((setRow_other _ _ _ _ (by omega)).trans (heap_alloc2_new w1 _ _)) (by kernel_rfl) rfl (by kernel_rfl) ?_; generalize ((((w1.alloc (.cells #[.string ⟨#[]⟩, .slice none 0 0, .slice none 0 0, .bool false, .int .i64 0, .int .i64 0, .int .i64 0, .int .u64 0, .int .u64 0, .slice none 0 0, .slice none 0 0, .slice none 0 0, .slice none 0 0, .slice none 0 0, .slice none 0 0, .int .i64 0] 39)).alloc (.cells #[.int .i64 0, .int .i64 0] 42)).setRow w1.heap.size cs).setRow (w1.heap.size + 1) #[.int .i64 0, .int .i64 cb]) = w3 at *; generalize w1.heap.size = h0 at *))
  go_ret
  exact ⟨rfl, HB.out⟩
end Go.Proofs.Ytcaifejfkpmeeaa
