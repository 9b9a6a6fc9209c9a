/- From a text's tokens to a reader of them. -/
import Derived.Test.YteepoohcdmjmhaaCondParse
namespace Go.Proofs.Yteepoohcdmjmhaa
open Go.RowKit
set_option linter.unusedVariables false
set_option linter.unusedSimpArgs false

def tkOf (s : ByteArray) (at_ : Nat) (l : List (Nat × Nat × Nat)) : List Tk := l.map fun r => ((r.1 : Int), s.extract r.2.1 r.2.2, (at_ : Int) + (r.2.1 : Nat))
theorem tkOf_cells (s : ByteArray) (at_ : Nat) (l : List (Nat × Nat × Nat)) : tkL (tkOf s at_ l) = tokCells s at_ l := by
  simp [tkL, tkOf, tokCells, List.flatMap_map]
theorem own_slice {w : World} {base : Nat} {e : TypeId} {size : Nat} {v : Value} {n : Nat} {xs : List Value} (h : w.ownsRow base e size v n xs) :
    ∃ p c, v = .slice p n c ∧ Rds w size p n xs ∧ (∀ a, p = some a → a.block < w.heap.size) := by
  obtain ⟨p, c, hv, hr, hc⟩ := Rds.of_own h
  refine ⟨p, c, hv, hr, fun a ha => ?_⟩
  obtain ⟨_, ⟨h1, h2⟩ | ⟨g, cap, cur, h1, hb, hg, _⟩⟩ := h
  · rw [h1] at hv; injection hv with e1; rw [← e1] at ha; cases ha
  · rw [h1] at hv; injection hv with e1; rw [← e1] at ha; injection ha with ha; rw [← ha]
    exact (Array.getElem?_eq_some_iff.1 hg).1
theorem toks_len : ∀ (n : Nat) (s : ByteArray) (i : Nat) (acc : List (Nat × Nat × Nat)), s.size - i = n → (toksF s i acc).1.length ≤ acc.length + (s.size - i) + 1 := by
  intro n
  induction n using Nat.strongRecOn with
  | _ n ih =>
    intro s i acc hn
    rw [toksF]
    by_cases h : i < s.size
    · rw [dif_pos h]
      by_cases h9 : (stepF s i).1 = 9
      · rw [if_pos h9]; simp
      · rw [if_neg h9]
        by_cases h2 : i < (stepF s i).2.1
        · rw [dif_pos h2]
          have := ih (s.size - (stepF s i).2.1) (by omega) s (stepF s i).2.1 (if (stepF s i).1 = 0 then acc else acc ++ [((stepF s i).1, i, (stepF s i).2.1)]) rfl
          split at this
          · rename_i h0; rw [if_pos h0]; omega
          · rename_i h0; rw [if_neg h0]; simp at this; omega
        · rw [dif_neg h2]; simp
    · rw [dif_neg h]; simp
theorem read_any {p : Option Addr} {n c : Nat} {tk : List Tk} (w : World) (hr : Rds w 3 p n (tkL tk)) (hl : tk.length = n) (hp : ∀ a, p = some a → a.block < w.heap.size) (hn : n ≤ 1048577) (hs : ∀ t ∈ tk, t.2.1.size ≤ 1048576) :
    Calls Try.prog 14 #[.slice p n c] w fun e w' => e = .returned (.pointer (some ⟨w.heap.size, 0, none⟩)) ∧ RdrAt w' w.heap.size n p c tk ⟨0, 0, 0⟩ ∧ Below w.heap.size w w' := by
  have HB := Lib.hid (show Below w.heap.size w (w.alloc (.cells #[.slice p n c, .int .i64 0, .int .i64 0, .int .i64 0] 67)) from below_alloc (Below.refl _ _) _)
  have HN := Lib.hid (show Blk (w.alloc (.cells #[.slice p n c, .int .i64 0, .int .i64 0, .int .i64 0] 67)) 67 w.heap.size [.slice p n c, .int .i64 0, .int .i64 0, .int .i64 0] from Blk.new w _ _)
  have HR := Lib.hid (hr.below HB.out)
  go_enter Try.func14, Try.ntmps14
  go_wp2_with fail
  go_ret
  exact ⟨rfl, ⟨HN.out, HR.out, hl, fun a ha => by have := hp a ha; omega, by simp, hn, hs⟩, HB.out⟩
end Go.Proofs.Yteepoohcdmjmhaa
