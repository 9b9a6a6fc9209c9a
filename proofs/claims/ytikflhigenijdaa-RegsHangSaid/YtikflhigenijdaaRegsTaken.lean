/- The contract of Taken; the examples of layer 5. -/
import Derived.Test.YtikflhigenijdaaRegsDo
namespace Go.Proofs.Ytikflhigenijdaa
open Go.RowKit

def takenB (op dv kind : Int) (same : Bool) : Bool :=
  if op = 14 then true else if op = 15 then dv == 0 else if op = 16 then dv != 0 else if op = 17 then (same == (kind == 0)) else false

def TakenSaid (g : Nat) (op d n m imm kind : Int) (x : List Int) (same : Bool) (sys : List Int) : Prop :=
  ∀ w : World, FileAt w 30 g x same sys → Calls Try.prog 22 #[.pointer (some ⟨g, 0, none⟩), instrV op d n m imm kind] w fun e w' => e = .returned (.bool (takenB op (getX x d) kind same)) ∧ Below w.heap.size w w'

set_option maxHeartbeats 800000 in
theorem taken_any (g : Nat) (op d n m imm kind : Int) {x : List Int} {same : Bool} {sys : List Int} : TakenSaid g op d n m imm kind x same sys := by
  intro w hf0
  have hf := hf0.alloc (.cells #[.int .i64 op, .int .i64 d, .int .i64 n, .int .i64 m, .int .i64 imm, .int .i64 kind] 42)
  have HF := Lib.hid (fun k : Nat => show FileAt ((w.alloc (.cells #[.int .i64 op, .int .i64 d, .int .i64 n, .int .i64 m, .int .i64 imm, .int .i64 kind] 42)).drewN k) 30 g x same sys from hf)
  have hlt := hf0.lt
  have hfl := hf.flag
  have HT : Hid (∀ b, takenB op (getX x d) kind same = b → Ending.returned (.bool b) = .returned (.bool (takenB op (getX x d) kind same))) := fun b h => by rw [h]
  clear hf hf0
  by_cases h : op = 14 ∨ op = 15 ∨ op = 16 ∨ op = 17
  · rcases h with rfl | rfl | rfl | rfl
    · go_enter Try.func22, Try.ntmps22
      go_wp2
      go_ret
      exact ⟨rfl, below_alloc (Below.refl _ _) _⟩
    · go_enter Try.func22, Try.ntmps22
      go_wp2_with (go_at_call 10; refine (fget_any g _ _ (HF.out 0)).mono ?_; rintro e w' ⟨rfl, m, rfl⟩)
      go_ret
      exact ⟨rfl, below_drewN (below_alloc (Below.refl _ _) _) _⟩
    · go_enter Try.func22, Try.ntmps22
      go_wp2_with (go_at_call 10; refine (fget_any g _ _ (HF.out 0)).mono ?_; rintro e w' ⟨rfl, m, rfl⟩)
      go_ret
      exact ⟨rfl, below_drewN (below_alloc (Below.refl _ _) _) _⟩
    · go_enter Try.func22, Try.ntmps22
      go_wp2_with fail
      go_quiet (fail)
      go_wp2
      go_ret
      exact ⟨rfl, below_drewN (below_alloc (Below.refl _ _) _) _⟩
  · have n1 : (op == 14) = false := beq_eq_false_iff_ne.2 (fun e => h (.inl e))
    have n2 : (op == 15) = false := beq_eq_false_iff_ne.2 (fun e => h (.inr (.inl e)))
    have n3 : (op == 16) = false := beq_eq_false_iff_ne.2 (fun e => h (.inr (.inr (.inl e))))
    have n4 : (op == 17) = false := beq_eq_false_iff_ne.2 (fun e => h (.inr (.inr (.inr e))))
    have H := HT.out false (by unfold takenB; rw [if_neg (fun e => h (.inl e)), if_neg (fun e => h (.inr (.inl e))), if_neg (fun e => h (.inr (.inr (.inl e)))), if_neg (fun e => h (.inr (.inr (.inr e))))])
    have HH := Lib.hid H
    clear h H
    go_enter Try.func22, Try.ntmps22
    go_wp2
    go_ret
    exact ⟨HH.out, below_alloc (Below.refl _ _) _⟩

end Go.Proofs.Ytikflhigenijdaa
