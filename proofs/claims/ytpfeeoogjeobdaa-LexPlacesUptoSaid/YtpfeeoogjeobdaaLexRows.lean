/- The contract of Rows. -/
import Derived.Test.YtpfeeoogjeobdaaLexTrim
import Derived.Test.YtpfeeoogjeobdaaAppS
namespace Go.Proofs.Ytpfeeoogjeobdaa
open Go.RowKit
set_option linter.unusedVariables false

theorem el_row : El Try.prog 35 30 (.agg #[.string ⟨#[]⟩, .int .i64 0]) 2 24 := ⟨Try.underlying35, by kernel_rfl⟩
/-- The cells of lines. -/
def rowCells (s : ByteArray) (l : List (Nat × Nat)) : List Value := l.flatMap fun r => [.string (s.extract r.1 r.2), .int .i64 (r.1 : Nat)]
theorem rowCells_snoc (s : ByteArray) (l : List (Nat × Nat)) (a e : Nat) : rowCells s (l ++ [(a, e)]) = rowCells s l ++ [.string (s.extract a e), .int .i64 (a : Nat)] := by simp [rowCells]
theorem rowCells_len (s : ByteArray) (l : List (Nat × Nat)) : (rowCells s l).length = l.length * 2 := by
  induction l with
  | nil => rfl
  | cons r l ih => rw [rowCells, List.flatMap_cons, List.length_append]; show 2 + (rowCells s l).length = _; rw [ih]; simp; omega
theorem extract_empty {s : ByteArray} {a e : Nat} (h : ¬ a < e) : s.extract a e = ByteArray.empty := by
  apply ByteArray.ext; simp; omega

def RowsInv (s : ByteArray) (w : World) (k : Nat) (f : Nat) (v : Value) (acc : List (Nat × Nat)) (wr : World) : Prop :=
  f ≤ k ∧ acc.length ≤ f ∧ scan (nlB s) s.size k = scan (nlB s) s.size f ∧ rowsF s f acc = rowsF s 0 [] ∧ wr.ownsRow w.heap.size 30 2 v acc.length (rowCells s acc) ∧ Below w.heap.size w wr

theorem rowsInv_below {s : ByteArray} {w : World} {k f : Nat} {v : Value} {acc : List (Nat × Nat)} {wr w2 : World} (h : RowsInv s w k f v acc wr) (hb : Below wr.heap.size wr w2) : RowsInv s w k f v acc w2 := by
  obtain ⟨h1, h2, h3, h4, h5, h6⟩ := h
  exact ⟨h1, h2, h3, h4, own_below h5 hb, below_trans h6 hb⟩
theorem rowsInv_end {s : ByteArray} {w : World} {k f : Nat} {v : Value} {acc : List (Nat × Nat)} {wr : World} (hk : s.size < k) (h : RowsInv s w k f v acc wr) : wr.ownsRow w.heap.size 30 2 v (rowsF s 0 []).length (rowCells s (rowsF s 0 [])) ∧ Below w.heap.size w wr := by
  obtain ⟨h1, h2, h3, h4, h5, h6⟩ := h
  have hf : ¬ f ≤ s.size := by
    intro hf
    have := (scan_ge (nlB s) s.size _ f rfl).2 hf
    rw [← h3, scan_stop (by omega)] at this
    omega
  rw [rowsF_end hf] at h4
  rw [← h4]; exact ⟨h5, h6⟩
theorem rowsInv_skip {s : ByteArray} {w : World} {k f : Nat} {v : Value} {acc : List (Nat × Nat)} {wr : World} (h : RowsInv s w k f v acc wr) (hs : scan (nlB s) s.size k = k) (hab : ¬ headF s f k < tailF s f k) : RowsInv s w (k + 1) (k + 1) v acc wr := by
  obtain ⟨h1, h2, h3, h4, h5, h6⟩ := h
  refine ⟨Nat.le_refl _, by omega, rfl, ?_, h5, h6⟩
  by_cases hf : f ≤ s.size
  · rw [← h4, rowsF_step (f := f) hf, ← h3, hs, if_neg hab]
  · rw [← h4, rowsF_end hf, rowsF_end (by omega)]
theorem rowsInv_add {s : ByteArray} {w : World} {k f : Nat} {v v' : Value} {acc : List (Nat × Nat)} {wr w' : World} (h : RowsInv s w k f v acc wr) (hs : scan (nlB s) s.size k = k) (hab : headF s f k < tailF s f k)
    (ho : w'.ownsRow w.heap.size 30 2 v' (acc.length + 1) (rowCells s acc ++ [.string (s.extract (headF s f k) (tailF s f k)), .int .i64 (headF s f k : Nat)])) (hb : Below w.heap.size wr w') : RowsInv s w (k + 1) (k + 1) v' (acc ++ [(headF s f k, tailF s f k)]) w' := by
  obtain ⟨h1, h2, h3, h4, h5, h6⟩ := h
  have hfs : f ≤ s.size ∨ s.size < f := by omega
  refine ⟨Nat.le_refl _, by simp; omega, rfl, ?_, by rw [rowCells_snoc, List.length_append]; exact ho, h6.trans hb⟩
  rcases hfs with hf | hf
  · rw [← h4, rowsF_step (f := f) hf, ← h3, hs, if_pos hab]
  · exfalso
    rw [scan_stop (i := f) (by omega), hs] at h3
    subst h3
    have := tailF_bd s k k (Nat.le_refl _)
    have := headF_bd s k k (Nat.le_refl _)
    omega
theorem empty_isEmpty : ByteArray.empty.toList.isEmpty = true := by rw [toList_ba]; rfl
theorem extract_some {k : Nat} {s : ByteArray} {a b : Nat} (h : a < b) (h1 : b ≤ k) (h2 : k ≤ s.size) : (s.extract a b).toList.isEmpty = false := by
  rw [toList_ba]
  have : 0 < (s.extract a b).data.toList.length := by simp; omega
  cases hl : (s.extract a b).data.toList with
  | nil => rw [hl] at this; simp at this
  | cons x l => rfl
theorem rowsInv_on {s : ByteArray} {w : World} {k f : Nat} {v : Value} {acc : List (Nat × Nat)} {wr : World} (hlt : k < s.size) (h10 : ((s[k].toNat : Int) == 10) = false) (h : RowsInv s w k f v acc wr) : RowsInv s w (k + 1) f v acc wr := by
  obtain ⟨h1, h2, h3, h4⟩ := h
  exact ⟨by omega, h2, by rw [← h3]; exact (scan_miss hlt (by unfold nlB; rw [bt_eq hlt]; exact h10)).symm, h4⟩

set_option maxRecDepth 100000 in
set_option maxHeartbeats 4000000 in
theorem rows_any (s : ByteArray) (w : World) (hs : s.size ≤ 140737488351232) (hs2 : s.size * 24 ≤ 140737488351232) :
    Calls Try.prog 11 #[.string s] w fun e w' => ∃ v, e = .returned v ∧ w'.ownsRow w.heap.size 30 2 v (rowsF s 0 []).length (rowCells s (rowsF s 0 [])) ∧ Below w.heap.size w w' := by
  have H0 := Lib.hid (show RowsInv s w 0 0 (.slice none 0 0) [] w from ⟨Nat.le_refl _, Nat.le_refl _, rfl, rfl, World.ownsRow_nil _ _ _ _, Below.refl _ _⟩)
  go_enter Try.func11, Try.ntmps11
  go_wp2_with fail
  go_loopw [3, 4, 5] (fun v f i wr => ∃ (k f' : Nat) (acc : List (Nat × Nat)), k ≤ s.size + 1 ∧ i = .int .i64 k ∧ f = .int .i64 f' ∧ RowsInv s w k f' v acc wr) (fun _ _ i _ => s.size + 1 - (intOf i).toNat)
  case atStart => exact ⟨0, 0, [], by omega, rfl, rfl, H0.out⟩
  case round =>
    obtain ⟨k, f', acc, hk, rfl, rfl, hI⟩ := hrel
    have HI := Lib.hid hI
    have HFK := Lib.hid hI.1
    clear hI
    by_cases hle : k ≤ s.size
    · by_cases hlt : k < s.size
      · cases h10 : ((s[k].toNat : Int) == 10)
        · have n10 : ((s[k].toNat : Int) != 10) = true := by simp only [bne, h10, Bool.not_false]
          go_wp2_with fail
          go_roundw
          case rel => exact ⟨k + 1, f', acc, by omega, by go_num, rfl, rowsInv_on hlt h10 HI.out⟩
          case measure => simp [intOf] <;> omega
        · have n10 : ((s[k].toNat : Int) != 10) = false := by simp only [bne, h10, Bool.not_true]
          have HST := Lib.hid (show scan (nlB s) s.size k = k from scan_hit hlt (by unfold nlB; rw [bt_eq hlt]; exact h10))
          go_wp2_with fail
          refine (trim_any s f' k _ hs HFK.out hle).mono ?_
          rintro e w2 ⟨rfl, hb2⟩
          have HI2 := Lib.hid (rowsInv_below HI.out hb2)
          clear hb2 HI
          by_cases hab : headF s f' k < tailF s f' k
          · have HIN := Lib.hid (fun v' w' => rowsInv_add (v' := v') (w' := w') HI2.out HST.out hab)
            have hemp : (s.extract (headF s f' k) (tailF s f' k)).toList.isEmpty = false := extract_some hab (tailF_bd s f' k HFK.out).2 hle
            have hacc : acc.length ≤ s.size := by have := HI2.out; have := HFK.out; have := HI2.out.2.1; omega
            generalize headF s f' k = a at *
            generalize tailF s f' k = b at *
            clear hab
            obtain ⟨p, c, rfl, _⟩ := own_form HI2.out.2.2.2.2.1
            have HO := Lib.hid HI2.out.2.2.2.2.1
            have HZ := Lib.hid HI2.out.2.2.2.2.2.size
            clear HI2
            go_wp2_with (at_builtin; refine app1s rfl _ _ 35 rfl w.heap.size 30 _ 2 24 el_row rfl (by decide) _ _ _ rfl (HO.out.alloc _) [.string (s.extract a b), .int .i64 a] rfl _ rfl (by simp) (by simp [Value.oneCell']) ?c1 ?c2 ?c3 ?_)
            case c1 => unfold maxLen; omega
            case c2 => omega
            case c3 => simp; have := HZ.out; omega
            intro v' w' ho' _ hb'
            have HIF := Lib.hid (HIN.out v' w' ho' (((Below.refl _ _).alloc HZ.out _).trans hb'))
            clear ho' hb' HO HIN HZ
            go_wp2
            go_roundw
            case rel => exact ⟨k + 1, k + 1, _, by omega, by go_num, rfl, HIF.out⟩
            case measure => simp [intOf] <;> omega
          · have hemp : (s.extract (headF s f' k) (tailF s f' k)).toList.isEmpty = true := by rw [extract_empty hab]; exact empty_isEmpty
            have HIF := Lib.hid (rowsInv_skip HI2.out HST.out hab)
            generalize headF s f' k = a at *
            generalize tailF s f' k = b at *
            clear hab HI2
            go_wp2
            go_roundw
            case rel => exact ⟨k + 1, k + 1, _, by omega, by go_num, rfl, rowsInv_below HIF.out (below_alloc (Below.refl _ _) _)⟩
            case measure => simp [intOf] <;> omega
      · obtain rfl : k = s.size := by omega
        have HST := Lib.hid (show scan (nlB s) s.size s.size = s.size from scan_stop (by omega))
        go_wp2_with fail
        refine (trim_any s f' s.size _ hs HFK.out hle).mono ?_
        rintro e w2 ⟨rfl, hb2⟩
        have HI2 := Lib.hid (rowsInv_below HI.out hb2)
        clear hb2 HI
        by_cases hab : headF s f' s.size < tailF s f' s.size
        · have HIN := Lib.hid (fun v' w' => rowsInv_add (v' := v') (w' := w') HI2.out HST.out hab)
          have hemp : (s.extract (headF s f' s.size) (tailF s f' s.size)).toList.isEmpty = false := extract_some hab (tailF_bd s f' s.size HFK.out).2 hle
          have hacc : acc.length ≤ s.size := by have := HI2.out; have := HFK.out; have := HI2.out.2.1; omega
          generalize headF s f' s.size = a at *
          generalize tailF s f' s.size = b at *
          clear hab
          obtain ⟨p, c, rfl, _⟩ := own_form HI2.out.2.2.2.2.1
          have HO := Lib.hid HI2.out.2.2.2.2.1
          have HZ := Lib.hid HI2.out.2.2.2.2.2.size
          clear HI2
          go_wp2_with (at_builtin; refine app1s rfl _ _ 35 rfl w.heap.size 30 _ 2 24 el_row rfl (by decide) _ _ _ rfl (HO.out.alloc _) [.string (s.extract a b), .int .i64 a] rfl _ rfl (by simp) (by simp [Value.oneCell']) ?c1 ?c2 ?c3 ?_)
          case c1 => unfold maxLen; omega
          case c2 => omega
          case c3 => simp; have := HZ.out; omega
          intro v' w' ho' _ hb'
          have HIF := Lib.hid (HIN.out v' w' ho' (((Below.refl _ _).alloc HZ.out _).trans hb'))
          clear ho' hb' HO HIN HZ
          go_wp2
          go_roundw
          case rel => exact ⟨s.size + 1, s.size + 1, _, by omega, by go_num, rfl, HIF.out⟩
          case measure => simp [intOf] <;> omega
        · have hemp : (s.extract (headF s f' s.size) (tailF s f' s.size)).toList.isEmpty = true := by rw [extract_empty hab]; exact empty_isEmpty
          have HIF := Lib.hid (rowsInv_skip HI2.out HST.out hab)
          generalize headF s f' s.size = a at *
          generalize tailF s f' s.size = b at *
          clear hab HI2
          go_wp2
          go_roundw
          case rel => exact ⟨s.size + 1, s.size + 1, _, by omega, by go_num, rfl, rowsInv_below HIF.out (below_alloc (Below.refl _ _) _)⟩
          case measure => simp [intOf] <;> omega
    · have HE := Lib.hid (rowsInv_end (by omega) HI.out)
      obtain ⟨h2, h3⟩ := HE.out
      have HO := Lib.hid h2
      have HB := Lib.hid h3
      clear h2 h3 HE HI
      go_wp2
      go_ret
      exact ⟨_, rfl, HO.out, HB.out⟩
end Go.Proofs.Ytpfeeoogjeobdaa
