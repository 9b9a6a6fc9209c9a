/- The contract of granuleref10.Rows. -/
import Derived.Test.YtcaifejfkpmeeaaGreatMgal
import Derived.Test.YtcaifejfkpmeeaaGreatMgbe
namespace Go.Proofs.YtcaifejfkpmeeaaGreat
open Go.RowKit
set_option linter.unusedVariables false
set_option linter.unusedSimpArgs false

/-- What a source that was read holds, as far as the example asks. -/
structure AwF (w1 : World) (cs : Array Value) (gl nl cl gc cc : Nat) (pc : Option Addr) (ccc : Nat) (pt : Option Addr) (ct : Nat) : Prop where
  size : cs.size = 16
  one : cs.all (·.oneCell') = true
  c0 : cs[0]? = some (.string ⟨#[97]⟩)
  c1 : cs[1]? = some (.slice (some ⟨gl, 0, none⟩) (nl + 1) cl)
  c2 : cs[2]? = some (.slice (some ⟨gc, 0, none⟩) 1 cc)
  c10 : cs[10]? = some (.slice pt 1 ct)
  core : w1.cell? ⟨gc, 3, none⟩ = some (.slice pc 1 ccc)
  cell : w1.cell? ⟨gl, 1, none⟩ = some (.int .u64 8195)
  lc : gc < w1.heap.size
  ll : gl < w1.heap.size
theorem cellL_one : ∀ (l : List (Nat × Nat)) (a b : Nat) , (cellL ((a, b) :: l))[1]? = some (u64V b) := fun _ _ _ => rfl
theorem aw_facts {w w1 : World} {e : Ending} (h : LitPost litEx w e w1) : ∃ cs cb gl nl cl gc cc pc ccc pt ct, e = .returned (.tuple #[.agg cs, .agg #[.int .i64 0, .int .i64 cb]]) ∧ AwF w1 cs gl nl cl gc cc pc ccc pt ct ∧ Below w.heap.size w w1 := by
  have hok := litEx_ok
  unfold LitPost at h
  generalize litA litEx = y at *
  obtain ⟨x, ca, cb⟩ := y
  obtain ⟨f', v, rfl, hP, hs, hB⟩ := h
  unfold exOk at hok
  simp only [Bool.and_eq_true, decide_eq_true_eq] at hok
  obtain ⟨⟨⟨⟨h0, h1⟩, h2⟩, h3⟩, h4⟩ := hok
  rcases hco : x.cores with _ | ⟨c, l⟩
  · rw [hco] at h2; cases h2
  rcases l with _ | ⟨c', l⟩
  rotate_left
  · rw [hco] at h2; cases h2
  rw [hco] at h2
  have h2 : c.code.length = 1 := of_decide_eq_true h2
  rcases hce : x.cells with _ | ⟨⟨a, b⟩, l⟩
  · rw [hce] at h4; cases h4
  rw [hce] at h4
  have h4 : b = 8195 := of_decide_eq_true h4
  subst h4
  obtain ⟨gc, cc, hvo, _⟩ := hP.cores.some (by rw [hco]; simp)
  obtain ⟨gl, cl, hvc, _⟩ := hP.cells.some (by rw [hce]; simp)
  obtain ⟨pt, ct, hvt, _⟩ := own_form hP.tables.1
  have hlc := hP.lenc
  rw [hco] at hlc
  rcases hcv : v.cvs with _ | ⟨cv, lv⟩
  · rw [hcv] at hlc; cases hlc
  rcases lv with _ | ⟨cv', lv⟩
  rotate_left
  · rw [hcv] at hlc; simp at hlc
  have hcore := hP.core 0 (by rw [hco]; simp) (by rw [hcv]; simp)
  have e1 : v.cvs[0]'(by rw [hcv]; simp) = cv := by simp only [hcv]; rfl
  have e2 : x.cores[0]'(by rw [hco]; simp) = c := by simp only [hco]; rfl
  rw [e1, e2] at hcore
  obtain ⟨pc, ccc, hpc, _⟩ := own_form hcore.2.1.1
  have hcc := hP.cores
  rw [hco, hcv] at hcc
  have k := OwnL.cell hcc (j := 3) (by rw [hco] at hvo; exact hvo) (by simp)
  have hcl := hP.cells
  have hle : x.cells.length = l.length + 1 := by rw [hce]; rfl
  rw [hle, hce] at hcl
  have k2 := OwnL.cell hcl (j := 1) (by rw [hle] at hvc; exact hvc) (by omega)
  rw [hco] at hvo
  rw [hle] at hvc
  rw [h3] at hvt
  refine ⟨_, cb, gl, l.length, cl, gc, cc, pc, ccc, pt, ct, by rw [h0], ⟨rfl, all_oneCell_toArray (src_one hP), ?_, ?_, ?_, ?_, ?_, ?_, k.2.2, k2.2.2⟩, hB⟩
  · rw [← h1]; rfl
  · rw [← hvc]; rfl
  · rw [show (1 : Nat) = [c].length from rfl, ← hvo]; rfl
  · rw [← hvt]; rfl
  · rw [k.1]; show some cv.c = _; rw [hpc, h2]
  · rw [k2.1]; rfl
theorem aw_post {s : ByteArray} (hs : s = litEx) (w : World) : Calls Tryz.prog 7 #[.string s] w (fun e w1 => ∃ cs cb gl nl cl gc cc pc ccc pt ct, e = .returned (.tuple #[.agg cs, .agg #[.int .i64 0, .int .i64 cb]]) ∧ AwF w1 cs gl nl cl gc cc pc ccc pt ct ∧ Below w.heap.size w w1) := by
  subst hs
  exact (lparse_any litEx w (by decide)).mono fun e w1 h => aw_facts h
/-- The source's block and the problem's, behind their stores. -/
theorem stored2 (w1 : World) (A B : Obj) (T1 T2 : TypeId) (z1 z2 cs ps : Array Value) (hA : A = .cells z1 T1 (0, 0)) (hB : B = .cells z2 T2 (0, 0)) : Blk ((((w1.alloc A).alloc B).setRow w1.heap.size cs).setRow (w1.heap.size + 1) ps) T1 w1.heap.size cs.toList ∧ Blk ((((w1.alloc A).alloc B).setRow w1.heap.size cs).setRow (w1.heap.size + 1) ps) T2 (w1.heap.size + 1) ps.toList ∧ Below w1.heap.size w1 ((((w1.alloc A).alloc B).setRow w1.heap.size cs).setRow (w1.heap.size + 1) ps) := by
  subst hA hB
  refine ⟨?_, ?_, belowSetRow (belowSetRow (below_alloc (below_alloc (Below.refl _ _) _) _) (Nat.le_refl _) _) (by omega) _⟩
  · exact (setRow_other _ _ _ _ (by omega)).trans (setRow_heap _ _ _ _ _ _ (heap_alloc2_old w1 _ _))
  · exact setRow_heap _ _ _ _ _ _ ((setRow_other _ _ _ _ (by omega)).trans (heap_alloc2_new w1 _ _))
set_option maxRecDepth 100000 in
set_option maxHeartbeats 3200000 in
theorem awake_any (w : World) : Calls Tryz.prog 5 #[] w fun e w' => e = .returned (.bool true) ∧ Below w.heap.size w w' := by
  go_enter Tryz.func5, Tryz.ntmps5
  go_wp2_with fail
  refine (aw_post rfl _).mono ?_
  rintro e w1 ⟨cs, cb, gl, nl, cl, gc, cc, pc, ccc, pt, ct, rfl, hF, hb⟩
  obtain ⟨S1, S2, S3⟩ := stored2 w1 (.cells #[.string ⟨#[]⟩, .slice none 0 0, .slice none 0 0, .bool false, .int .i64 0, .int .i64 0, .int .i64 0, .int .u64 0, .int .u64 0, .slice none 0 0, .slice none 0 0, .slice none 0 0, .slice none 0 0, .slice none 0 0, .slice none 0 0, .int .i64 0] 38) (.cells #[.int .i64 0, .int .i64 0] 41) 38 41 _ _ cs #[.int .i64 0, .int .i64 cb] rfl rfl
  have HF := Lib.hid hF
  have HB := Lib.hid (below_trans hb (S3.mono (by have := hb.size; omega)))
  have d0 := S1.cell 0
  have d1 := S1.cell 1
  have d2 := S1.cell 2
  have d10 := S1.cell 10
  have p0 := S2.cell 0
  have p1 := S2.cell 1
  have l1 := S1.lt
  have l2 := S2.lt
  have x1 := (World.cell?_of_block (a := ⟨gc, 3, none⟩) (S3.block gc hF.lc)).trans hF.core
  have x2 := (World.cell?_of_block (a := ⟨gl, 1, none⟩) (S3.block gl hF.ll)).trans hF.cell
  have x3 : gc < ((((w1.alloc (.cells #[.string ⟨#[]⟩, .slice none 0 0, .slice none 0 0, .bool false, .int .i64 0, .int .i64 0, .int .i64 0, .int .u64 0, .int .u64 0, .slice none 0 0, .slice none 0 0, .slice none 0 0, .slice none 0 0, .slice none 0 0, .slice none 0 0, .int .i64 0] 38)).alloc (.cells #[.int .i64 0, .int .i64 0] 41)).setRow w1.heap.size cs).setRow (w1.heap.size + 1) #[.int .i64 0, .int .i64 cb]).heap.size := Nat.lt_of_lt_of_le hF.lc S3.size
  have x4 : gl < ((((w1.alloc (.cells #[.string ⟨#[]⟩, .slice none 0 0, .slice none 0 0, .bool false, .int .i64 0, .int .i64 0, .int .i64 0, .int .u64 0, .int .u64 0, .slice none 0 0, .slice none 0 0, .slice none 0 0, .slice none 0 0, .slice none 0 0, .slice none 0 0, .int .i64 0] 38)).alloc (.cells #[.int .i64 0, .int .i64 0] 41)).setRow w1.heap.size cs).setRow (w1.heap.size + 1) #[.int .i64 0, .int .i64 cb]).heap.size := Nat.lt_of_lt_of_le hF.ll S3.size
  have hi39 := Lib.hid (show (Tryz.prog.info? 38).map (·.size) = some cs.size by rw [hF.size]; kernel_rfl)
  simp only [Array.getElem?_toList, hF.c0, hF.c1, hF.c2, hF.c10] at d0 d1 d2 d10
  simp only [List.getElem?_cons_zero, List.getElem?_cons_succ] at p0 p1
  have hnl : (0 : Int) < (nl : Int) + 1 := by omega
  clear hF hb S1 S2 S3
  go_wp2_with (first | (refine wpList_store_row rfl 38 (.tmp 1) (.tmp 5) rfl w1.heap.size cs rfl rfl 38 _ (heap_alloc2_old w1 _ _) hi39.out (by rw [HF.out.size]; rfl) HF.out.one ?_) | (refine wpList_store_row rfl 41 (.tmp 2) (.tmp 6) rfl (w1.heap.size + 1) #[.int .i64 0, .int .i64 cb] rfl rfl 41 _ ((setRow_other _ _ _ _ (by omega)).trans (heap_alloc2_new w1 _ _)) (by kernel_rfl) rfl (by kernel_rfl) ?_; generalize ((((w1.alloc (.cells #[.string ⟨#[]⟩, .slice none 0 0, .slice none 0 0, .bool false, .int .i64 0, .int .i64 0, .int .i64 0, .int .u64 0, .int .u64 0, .slice none 0 0, .slice none 0 0, .slice none 0 0, .slice none 0 0, .slice none 0 0, .slice none 0 0, .int .i64 0] 38)).alloc (.cells #[.int .i64 0, .int .i64 0] 41)).setRow w1.heap.size cs).setRow (w1.heap.size + 1) #[.int .i64 0, .int .i64 cb]) = w3 at *; generalize w1.heap.size = h0 at *))
  go_ret
  exact ⟨rfl, HB.out⟩
end Go.Proofs.YtcaifejfkpmeeaaGreat
namespace Go.Proofs.YtcaifejfkpmeeaaGreat
open Go.RowKit
set_option linter.unusedVariables false

theorem el_rrow : El Tryz.prog 52 65 (.agg #[.string ⟨#[]⟩, .int .i64 0]) 2 24 := ⟨Tryz.underlying52, by kernel_rfl⟩
theorem slash_slice {s : ByteArray} {k : Nat} (h : k + 2 ≤ s.size) : ((s.extract k (k + 2)).toList == [47, 47]) = slash2 s k := by
  have e : (s.extract k (k + 2)).toList = [s[k], s[k + 1]] := by
    rw [toList_ba]
    apply List.ext_getElem
    · simp; omega
    · intro i h1 h2
      match i, h2 with
      | 0, _ => simp; rfl
      | 1, _ => simp; rfl
  rw [e]; unfold slash2
  rw [bt_eq (show k < s.size by omega), bt_eq (show k + 1 < s.size by omega), Bool.eq_iff_iff]
  have q : ∀ c : UInt8, c = 47 ↔ ((c.toNat : Int) = 47) := by
    intro c
    constructor
    · intro h; rw [h]; rfl
    · intro h
      apply UInt8.toNat_inj.1
      show c.toNat = 47
      omega
  simp [q]

def RRowsInv (s : ByteArray) (w : World) (f : Nat) (v : Value) (acc : List (Nat × Nat)) (wr : World) : Prop :=
  acc.length ≤ f ∧ rowsF s f acc = rowsF s 0 [] ∧ wr.ownsRow w.heap.size 65 2 v acc.length (rowCells s acc) ∧ Below w.heap.size w wr
theorem rrowsInv_below {s : ByteArray} {w : World} {f : Nat} {v : Value} {acc : List (Nat × Nat)} {wr w2 : World} (h : RRowsInv s w f v acc wr) (hb : Below wr.heap.size wr w2) : RRowsInv s w f v acc w2 := by
  obtain ⟨h2, h4, h5, h6⟩ := h
  exact ⟨h2, h4, own_below h5 hb, below_trans h6 hb⟩
theorem rrowsInv_skip {s : ByteArray} {w : World} {k f : Nat} {v : Value} {acc : List (Nat × Nat)} {wr : World} (h : RRowsInv s w f v acc wr) (hf : f ≤ s.size) (hs : scan (nlB s) s.size f = k) (hfk : f ≤ k) (hab : ¬ headF s f k < tailF s f k) : RRowsInv s w (k + 1) v acc wr := by
  obtain ⟨h2, h4, h5, h6⟩ := h
  exact ⟨by omega, by rw [← h4, rowsF_step (f := f) hf, hs, if_neg hab], h5, h6⟩
theorem rrowsInv_add {s : ByteArray} {w : World} {k f : Nat} {v v' : Value} {acc : List (Nat × Nat)} {wr w' : World} (h : RRowsInv s w f v acc wr) (hf : f ≤ s.size) (hs : scan (nlB s) s.size f = k) (hfk : f ≤ k) (hab : headF s f k < tailF s f k)
    (ho : w'.ownsRow w.heap.size 65 2 v' (acc.length + 1) (rowCells s acc ++ [.string (s.extract (headF s f k) (tailF s f k)), .int .i64 (headF s f k : Nat)])) (hb : Below w.heap.size wr w') : RRowsInv s w (k + 1) v' (acc ++ [(headF s f k, tailF s f k)]) w' := by
  obtain ⟨h2, h4, h5, h6⟩ := h
  exact ⟨by simp; omega, by rw [← h4, rowsF_step (f := f) hf, hs, if_pos hab], by rw [rowCells_snoc, List.length_append]; exact ho, h6.trans hb⟩
theorem cutF_top (s : ByteArray) (t : Nat) : cutF s (t - 1) t = t := by
  unfold cutF
  rw [scan_stop (by omega)]
  split <;> omega
theorem cutF_step {s : ByteArray} {j t : Nat} (h : j + 2 ≤ t) : cutF s j t = if slash2 s j then j else cutF s (j + 1) t := by
  unfold cutF
  cases hp : slash2 s j
  · rw [scan_miss (by omega) hp]; simp
  · rw [scan_hit (by omega) hp, if_pos (by omega)]; simp

theorem cutF_exit {s : ByteArray} {f j k : Nat} (hfj : f ≤ j) (h1 : j < f + 2) (h : j = k ∨ f + 1 ≤ j) (hk : j ≤ k) : cutF s (j - 1) k = cutF s f k := by
  rcases h with rfl | h
  · rw [cutF_top]
    unfold cutF
    rw [scan_stop (by omega)]
    split <;> omega
  · rw [show j - 1 = f by omega]

set_option maxRecDepth 100000 in
set_option maxHeartbeats 4000000 in
theorem rrows_any (s : ByteArray) (w : World) (hs : s.size ≤ 140737488351232) (hs2 : s.size * 24 ≤ 140737488351232) :
    Calls Tryz.prog 10 #[.string s] w fun e w' => ∃ v, e = .returned v ∧ w'.ownsRow w.heap.size 65 2 v (rowsF s 0 []).length (rowCells s (rowsF s 0 [])) ∧ Below w.heap.size w w' := by
  have H0 := Lib.hid (show RRowsInv s w 0 (.slice none 0 0) [] w from ⟨Nat.le_refl _, rfl, World.ownsRow_nil _ _ _ _, Below.refl _ _⟩)
  go_enter Tryz.func10, Tryz.ntmps10
  go_wp2_with fail
  go_loopw [3, 4] (fun v f wr => ∃ (f' : Nat) (acc : List (Nat × Nat)), f' ≤ s.size + 1 ∧ f = .int .i64 f' ∧ RRowsInv s w f' v acc wr) (fun _ f _ => s.size + 1 - (intOf f).toNat)
  case atStart => exact ⟨0, [], by omega, rfl, H0.out⟩
  case round =>
    obtain ⟨f, acc, hf1, rfl, hI⟩ := hrel
    have HI := Lib.hid hI
    clear hI
    obtain ⟨wo, rfl⟩ : ∃ wo : World, wo = wr := ⟨_, rfl⟩
    by_cases hle : f ≤ s.size
    · have HSB := Lib.hid ((scan_ge (nlB s) s.size _ f rfl).2 hle)
      go_wp2_with fail
      go_loop [5] (fun i => ∃ k : Nat, f ≤ k ∧ k ≤ s.size ∧ i = .int .i64 k ∧ scan (nlB s) s.size k = scan (nlB s) s.size f) (fun i => s.size - (intOf i).toNat)
      case atStart => exact ⟨f, Nat.le_refl _, hle, rfl, rfl⟩
      case round =>
        obtain ⟨k, hfk, hks, rfl, hsc⟩ := hrel
        have HS := Lib.hid hsc
        clear hsc
        by_cases hlt : k < s.size
        · cases h10 : ((s[k].toNat : Int) == 10)
          · have n10 : ((s[k].toNat : Int) != 10) = true := by simp only [bne, h10, Bool.not_false]
            have HS2 := Lib.hid ((scan_miss hlt (show nlB s k = false by unfold nlB; rw [bt_eq hlt]; exact h10)).symm.trans HS.out)
            go_wp2_with fail
            go_round
            case rel => exact ⟨k + 1, by omega, by omega, by go_num, HS2.out⟩
            case measure => simp [intOf]; omega
          · have n10 : ((s[k].toNat : Int) != 10) = false := by simp only [bne, h10, Bool.not_true]
            have HST := Lib.hid (show scan (nlB s) s.size f = k from HS.out.symm.trans (scan_hit hlt (by unfold nlB; rw [bt_eq hlt]; exact h10)))
            clear HS
            go_wp2_with fail
            go_loop [6, 7] (fun e i => ∃ j : Nat, j ≤ k ∧ (j = k ∨ f + 1 ≤ j) ∧ f ≤ j ∧ i = .int .i64 ((j : Int) - 2) ∧ e = .int .i64 (cutF s (j - 1) k : Nat)) (fun _ i => (intOf i + 2).toNat)
            case atStart => exact ⟨k, Nat.le_refl _, .inl rfl, hfk, by go_num, by rw [cutF_top]⟩
            case round =>
              obtain ⟨j, hjk, hjf, hfj, rfl, rfl⟩ := hrel
              by_cases hj : f + 2 ≤ j
              · obtain ⟨q, rfl⟩ : ∃ q, j = q + 2 := ⟨j - 2, by omega⟩
                have HCS := Lib.hid (cutF_step (s := s) (j := q) (t := k) (by omega))
                have hsl := slash_slice (s := s) (k := q) (by omega)
                have HSL := Lib.hid hsl
                have hq : (((q + 2 : Nat) : Int) - 2) = q := by omega
                have hq1 : q + 2 - 1 = q + 1 := by omega
                rw [hq, hq1]
                cases hs2 : slash2 s q
                all_goals
                  rw [hs2] at hsl HCS
                  have hfq : (f : Int) ≤ q := by omega
                  simp only [if_true, Bool.false_eq_true, if_false] at HCS
                  have HF := Lib.hid hsl
                  go_wp2_with fail
                  go_round
                  case rel => exact ⟨q + 1, by omega, by omega, by omega, by go_num, by first | (rw [show q + 1 - 1 = q from by omega, HCS.out])⟩
                  case measure => simp [intOf]; omega
              · have HCE := Lib.hid (cutF_exit (s := s) hfj (by omega) hjf hjk)
                have hlo : (j : Int) - 2 < f := by omega
                rw [HCE.out]
                have HCB := Lib.hid (cutF_bd s f k hfk)
                obtain ⟨c, hc⟩ : ∃ c, c = cutF s f k := ⟨_, rfl⟩
                have HC := Lib.hid hc.symm
                rw [← hc] at HCB ⊢
                clear hc HCE
                obtain ⟨hfc, hck⟩ := HCB.out
                have HFK := Lib.hid hfk
                clear HCB hj hjf
                have HH0 := Lib.hid (show scan (solidB s) c f = headF s f k from by unfold headF; rw [HC.out])
                go_wp2_with fail
                go_loop [8] (fun v => ∃ a : Nat, f ≤ a ∧ a ≤ c ∧ v = .int .i64 a ∧ scan (solidB s) c a = headF s f k) (fun v => c - (intOf v).toNat)
                case atStart => exact ⟨f, Nat.le_refl _, hfc, rfl, HH0.out⟩
                case round =>
                  obtain ⟨a, hfa, hac, rfl, hsc⟩ := hrel
                  have HS := Lib.hid hsc
                  clear hsc HH0
                  by_cases hlt : a < c
                  · have has : a < s.size := by omega
                    have HQ := Lib.hid (bt_eq has)
                    cases hb : blankB (s[a].toNat : Int)
                    · have HA := Lib.hid (show headF s f k = a from by rw [← HS.out]; exact scan_hit hlt (by unfold solidB; rw [HQ.out, hb]; rfl))
                      clear HS
                      go_wp2_with (go_at_call 17; refine (rblank_any _ _).mono ?_; rintro e w' ⟨rfl, rfl⟩)
                      have HK0 := Lib.hid (show back (fun k => blankB (bt s k)) a c = tailF s f k from by unfold tailF; rw [HA.out, HC.out])
                      go_loop [6] (fun v => ∃ e : Nat, a ≤ e ∧ e ≤ c ∧ v = .int .i64 e ∧ back (fun k => blankB (bt s k)) a e = tailF s f k) (fun v => (intOf v).toNat)
                      case atStart => exact ⟨c, hac, Nat.le_refl _, rfl, HK0.out⟩
                      case round =>
                        obtain ⟨e, hae, hec, rfl, hbk⟩ := hrel
                        have HK := Lib.hid hbk
                        clear hbk HK0
                        by_cases hlt : a < e
                        · obtain ⟨q, rfl⟩ : ∃ q, e = q + 1 := ⟨e - 1, by omega⟩
                          have hqs : q < s.size := by omega
                          have hlt' : (a : Int) < (q : Int) + 1 := by omega
                          have HQ := Lib.hid (bt_eq hqs)
                          cases hb : blankB (s[q].toNat : Int)
                          · have HT := Lib.hid (show tailF s f k = q + 1 from by rw [← HK.out]; exact back_miss hlt (by simp only [Nat.add_sub_cancel]; rw [HQ.out]; exact hb))
                            clear HK
                            have HIN := Lib.hid (fun v' w' => rrowsInv_add (v' := v') (w' := w') HI.out hle HST.out HFK.out (by rw [HA.out, HT.out]; omega))
                            rw [HA.out, HT.out] at HIN
                            obtain ⟨p, c, rfl, _⟩ := own_form HI.out.2.2.1
                            have HO := Lib.hid HI.out.2.2.1
                            have HZ := Lib.hid HI.out.2.2.2.size
                            have hacc : acc.length ≤ s.size := by have := HI.out.1; omega
                            clear HI
                            go_wp2_with (first | (go_at_call 17; refine (rblank_any _ _).mono ?_; rintro e w' ⟨rfl, rfl⟩) | (at_builtin; refine app1s rfl _ _ 52 rfl w.heap.size 65 _ 2 24 el_rrow rfl (by decide) _ _ _ rfl HO.out [.string (s.extract a (q + 1)), .int .i64 a] rfl _ rfl (by simp) (by simp [Value.oneCell']) ?c1 ?c2 HZ.out ?_))
                            case c1 => unfold maxLen; omega
                            case c2 => omega
                            intro v' w' ho' _ hb'
                            have HIF := Lib.hid (HIN.out v' w' ho' hb')
                            clear ho' hb' HO HIN HZ
                            go_wp2
                            go_roundw
                            case rel => exact ⟨k + 1, _, by omega, by go_num, HIF.out⟩
                            case measure => simp [intOf]; omega
                          · have HK2 := Lib.hid (show back (fun k => blankB (bt s k)) a q = tailF s f k from by rw [← HK.out]; exact (back_hit hlt (by simp only [Nat.add_sub_cancel]; rw [HQ.out]; exact hb)).symm)
                            clear HK
                            go_wp2_with (go_at_call 17; refine (rblank_any _ _).mono ?_; rintro e w' ⟨rfl, rfl⟩)
                            go_round
                            case rel => exact ⟨q, by omega, by omega, by go_num, HK2.out⟩
                            case measure => simp [intOf]
                        · obtain rfl : e = a := by omega
                          have HT := Lib.hid (show tailF s f k = e from by rw [← HK.out]; exact back_stop (by omega))
                          clear HK hlt
                          have HIF := Lib.hid (rrowsInv_skip HI.out hle HST.out HFK.out (by rw [HA.out, HT.out]; omega))
                          clear HI
                          go_wp2
                          go_roundw
                          case rel => exact ⟨k + 1, acc, by omega, by go_num, HIF.out⟩
                          case measure => simp [intOf]; omega
                    · have HS2 := Lib.hid (show scan (solidB s) c (a + 1) = headF s f k from by rw [← HS.out]; exact (scan_miss hlt (by unfold solidB; rw [HQ.out, hb]; rfl)).symm)
                      clear HS
                      go_wp2_with (go_at_call 17; refine (rblank_any _ _).mono ?_; rintro e w' ⟨rfl, rfl⟩)
                      go_round
                      case rel => exact ⟨a + 1, by omega, by omega, by go_num, HS2.out⟩
                      case measure => simp [intOf]; omega
                  · have hlt' : (c : Int) ≤ a := by omega
                    have HA := Lib.hid (show headF s f k = a from by rw [← HS.out]; exact scan_stop (by omega))
                    clear HS hlt
                    go_wp2_with (go_at_call 17; refine (rblank_any _ _).mono ?_; rintro e w' ⟨rfl, rfl⟩)
                    have HK0 := Lib.hid (show back (fun k => blankB (bt s k)) a c = tailF s f k from by unfold tailF; rw [HA.out, HC.out])
                    go_loop [6] (fun v => ∃ e : Nat, a ≤ e ∧ e ≤ c ∧ v = .int .i64 e ∧ back (fun k => blankB (bt s k)) a e = tailF s f k) (fun v => (intOf v).toNat)
                    case atStart => exact ⟨c, hac, Nat.le_refl _, rfl, HK0.out⟩
                    case round =>
                      obtain ⟨e, hae, hec, rfl, hbk⟩ := hrel
                      have HK := Lib.hid hbk
                      clear hbk HK0
                      by_cases hlt : a < e
                      · exfalso; omega
                      · obtain rfl : e = a := by omega
                        have HT := Lib.hid (show tailF s f k = e from by rw [← HK.out]; exact back_stop (by omega))
                        clear HK hlt
                        have HIF := Lib.hid (rrowsInv_skip HI.out hle HST.out HFK.out (by rw [HA.out, HT.out]; omega))
                        clear HI
                        go_wp2
                        go_roundw
                        case rel => exact ⟨k + 1, acc, by omega, by go_num, HIF.out⟩
                        case measure => simp [intOf]; omega
        · have hlt' : (s.size : Int) ≤ k := by omega
          have HST := Lib.hid (show scan (nlB s) s.size f = k from HS.out.symm.trans ((scan_stop hlt)))
          clear HS hlt
          go_wp2_with fail
          go_loop [6, 7] (fun e i => ∃ j : Nat, j ≤ k ∧ (j = k ∨ f + 1 ≤ j) ∧ f ≤ j ∧ i = .int .i64 ((j : Int) - 2) ∧ e = .int .i64 (cutF s (j - 1) k : Nat)) (fun _ i => (intOf i + 2).toNat)
          case atStart => exact ⟨k, Nat.le_refl _, .inl rfl, hfk, by go_num, by rw [cutF_top]⟩
          case round =>
            obtain ⟨j, hjk, hjf, hfj, rfl, rfl⟩ := hrel
            by_cases hj : f + 2 ≤ j
            · obtain ⟨q, rfl⟩ : ∃ q, j = q + 2 := ⟨j - 2, by omega⟩
              have HCS := Lib.hid (cutF_step (s := s) (j := q) (t := k) (by omega))
              have hsl := slash_slice (s := s) (k := q) (by omega)
              have HSL := Lib.hid hsl
              have hq : (((q + 2 : Nat) : Int) - 2) = q := by omega
              have hq1 : q + 2 - 1 = q + 1 := by omega
              rw [hq, hq1]
              cases hs2 : slash2 s q
              all_goals
                rw [hs2] at hsl HCS
                have hfq : (f : Int) ≤ q := by omega
                simp only [if_true, Bool.false_eq_true, if_false] at HCS
                have HF := Lib.hid hsl
                go_wp2_with fail
                go_round
                case rel => exact ⟨q + 1, by omega, by omega, by omega, by go_num, by first | (rw [show q + 1 - 1 = q from by omega, HCS.out])⟩
                case measure => simp [intOf]; omega
            · have HCE := Lib.hid (cutF_exit (s := s) hfj (by omega) hjf hjk)
              have hlo : (j : Int) - 2 < f := by omega
              rw [HCE.out]
              have HCB := Lib.hid (cutF_bd s f k hfk)
              obtain ⟨c, hc⟩ : ∃ c, c = cutF s f k := ⟨_, rfl⟩
              have HC := Lib.hid hc.symm
              rw [← hc] at HCB ⊢
              clear hc HCE
              obtain ⟨hfc, hck⟩ := HCB.out
              have HFK := Lib.hid hfk
              clear HCB hj hjf
              have HH0 := Lib.hid (show scan (solidB s) c f = headF s f k from by unfold headF; rw [HC.out])
              go_wp2_with fail
              go_loop [8] (fun v => ∃ a : Nat, f ≤ a ∧ a ≤ c ∧ v = .int .i64 a ∧ scan (solidB s) c a = headF s f k) (fun v => c - (intOf v).toNat)
              case atStart => exact ⟨f, Nat.le_refl _, hfc, rfl, HH0.out⟩
              case round =>
                obtain ⟨a, hfa, hac, rfl, hsc⟩ := hrel
                have HS := Lib.hid hsc
                clear hsc HH0
                by_cases hlt : a < c
                · have has : a < s.size := by omega
                  have HQ := Lib.hid (bt_eq has)
                  cases hb : blankB (s[a].toNat : Int)
                  · have HA := Lib.hid (show headF s f k = a from by rw [← HS.out]; exact scan_hit hlt (by unfold solidB; rw [HQ.out, hb]; rfl))
                    clear HS
                    go_wp2_with (go_at_call 17; refine (rblank_any _ _).mono ?_; rintro e w' ⟨rfl, rfl⟩)
                    have HK0 := Lib.hid (show back (fun k => blankB (bt s k)) a c = tailF s f k from by unfold tailF; rw [HA.out, HC.out])
                    go_loop [6] (fun v => ∃ e : Nat, a ≤ e ∧ e ≤ c ∧ v = .int .i64 e ∧ back (fun k => blankB (bt s k)) a e = tailF s f k) (fun v => (intOf v).toNat)
                    case atStart => exact ⟨c, hac, Nat.le_refl _, rfl, HK0.out⟩
                    case round =>
                      obtain ⟨e, hae, hec, rfl, hbk⟩ := hrel
                      have HK := Lib.hid hbk
                      clear hbk HK0
                      by_cases hlt : a < e
                      · obtain ⟨q, rfl⟩ : ∃ q, e = q + 1 := ⟨e - 1, by omega⟩
                        have hqs : q < s.size := by omega
                        have hlt' : (a : Int) < (q : Int) + 1 := by omega
                        have HQ := Lib.hid (bt_eq hqs)
                        cases hb : blankB (s[q].toNat : Int)
                        · have HT := Lib.hid (show tailF s f k = q + 1 from by rw [← HK.out]; exact back_miss hlt (by simp only [Nat.add_sub_cancel]; rw [HQ.out]; exact hb))
                          clear HK
                          have HIN := Lib.hid (fun v' w' => rrowsInv_add (v' := v') (w' := w') HI.out hle HST.out HFK.out (by rw [HA.out, HT.out]; omega))
                          rw [HA.out, HT.out] at HIN
                          obtain ⟨p, c, rfl, _⟩ := own_form HI.out.2.2.1
                          have HO := Lib.hid HI.out.2.2.1
                          have HZ := Lib.hid HI.out.2.2.2.size
                          have hacc : acc.length ≤ s.size := by have := HI.out.1; omega
                          clear HI
                          go_wp2_with (first | (go_at_call 17; refine (rblank_any _ _).mono ?_; rintro e w' ⟨rfl, rfl⟩) | (at_builtin; refine app1s rfl _ _ 52 rfl w.heap.size 65 _ 2 24 el_rrow rfl (by decide) _ _ _ rfl HO.out [.string (s.extract a (q + 1)), .int .i64 a] rfl _ rfl (by simp) (by simp [Value.oneCell']) ?c1 ?c2 HZ.out ?_))
                          case c1 => unfold maxLen; omega
                          case c2 => omega
                          intro v' w' ho' _ hb'
                          have HIF := Lib.hid (HIN.out v' w' ho' hb')
                          clear ho' hb' HO HIN HZ
                          go_wp2
                          go_roundw
                          case rel => exact ⟨k + 1, _, by omega, by go_num, HIF.out⟩
                          case measure => simp [intOf]; omega
                        · have HK2 := Lib.hid (show back (fun k => blankB (bt s k)) a q = tailF s f k from by rw [← HK.out]; exact (back_hit hlt (by simp only [Nat.add_sub_cancel]; rw [HQ.out]; exact hb)).symm)
                          clear HK
                          go_wp2_with (go_at_call 17; refine (rblank_any _ _).mono ?_; rintro e w' ⟨rfl, rfl⟩)
                          go_round
                          case rel => exact ⟨q, by omega, by omega, by go_num, HK2.out⟩
                          case measure => simp [intOf]
                      · obtain rfl : e = a := by omega
                        have HT := Lib.hid (show tailF s f k = e from by rw [← HK.out]; exact back_stop (by omega))
                        clear HK hlt
                        have HIF := Lib.hid (rrowsInv_skip HI.out hle HST.out HFK.out (by rw [HA.out, HT.out]; omega))
                        clear HI
                        go_wp2
                        go_roundw
                        case rel => exact ⟨k + 1, acc, by omega, by go_num, HIF.out⟩
                        case measure => simp [intOf]; omega
                  · have HS2 := Lib.hid (show scan (solidB s) c (a + 1) = headF s f k from by rw [← HS.out]; exact (scan_miss hlt (by unfold solidB; rw [HQ.out, hb]; rfl)).symm)
                    clear HS
                    go_wp2_with (go_at_call 17; refine (rblank_any _ _).mono ?_; rintro e w' ⟨rfl, rfl⟩)
                    go_round
                    case rel => exact ⟨a + 1, by omega, by omega, by go_num, HS2.out⟩
                    case measure => simp [intOf]; omega
                · have hlt' : (c : Int) ≤ a := by omega
                  have HA := Lib.hid (show headF s f k = a from by rw [← HS.out]; exact scan_stop (by omega))
                  clear HS hlt
                  go_wp2_with (go_at_call 17; refine (rblank_any _ _).mono ?_; rintro e w' ⟨rfl, rfl⟩)
                  have HK0 := Lib.hid (show back (fun k => blankB (bt s k)) a c = tailF s f k from by unfold tailF; rw [HA.out, HC.out])
                  go_loop [6] (fun v => ∃ e : Nat, a ≤ e ∧ e ≤ c ∧ v = .int .i64 e ∧ back (fun k => blankB (bt s k)) a e = tailF s f k) (fun v => (intOf v).toNat)
                  case atStart => exact ⟨c, hac, Nat.le_refl _, rfl, HK0.out⟩
                  case round =>
                    obtain ⟨e, hae, hec, rfl, hbk⟩ := hrel
                    have HK := Lib.hid hbk
                    clear hbk HK0
                    by_cases hlt : a < e
                    · exfalso; omega
                    · obtain rfl : e = a := by omega
                      have HT := Lib.hid (show tailF s f k = e from by rw [← HK.out]; exact back_stop (by omega))
                      clear HK hlt
                      have HIF := Lib.hid (rrowsInv_skip HI.out hle HST.out HFK.out (by rw [HA.out, HT.out]; omega))
                      clear HI
                      go_wp2
                      go_roundw
                      case rel => exact ⟨k + 1, acc, by omega, by go_num, HIF.out⟩
                      case measure => simp [intOf]; omega
    · have hlt' : (s.size : Int) < f := by omega
      have HF := Lib.hid (show wo.ownsRow w.heap.size 65 2 u3 (rowsF s 0 []).length (rowCells s (rowsF s 0 [])) ∧ Below w.heap.size w wo from by
        obtain ⟨h2, h4, h5, h6⟩ := HI.out
        rw [rowsF_end hle] at h4; rw [← h4]; exact ⟨h5, h6⟩)
      clear HI hle
      go_wp2
      go_ret
      exact ⟨_, rfl, HF.out.1, HF.out.2⟩
end Go.Proofs.YtcaifejfkpmeeaaGreat
