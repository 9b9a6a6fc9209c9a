/- The law's is. -/
import Derived.Test.YtckejjpillcdgaaQueueRef
namespace Go.Proofs.Ytckejjpillcdgaa
open Go.RowKit
set_option linter.unusedVariables false

theorem grownBy_setCell (w : World) (R j : Nat) (v : Value) : w.grownBy (w.setCell ⟨R, j, none⟩ v) (some R) :=
  ⟨rfl, rfl, rfl, by simp [World.setCell], fun k _ hne => heap_setCell_other w _ k _ (fun e => hne (by simp [e]))⟩
theorem QRow.setBlk {w : World} {T T' : TypeId} {B gq c cap R : Nat} {vs cs : List Value} (h : QRow w T B gq c cap vs) (hb : Blk w T' R cs) (hne : T' ≠ T) (j : Nat) (v : Value) : QRow (w.setCell ⟨R, j, none⟩ v) T B gq c cap vs :=
  h.kept (grownBy_setCell w R j v) (fun k e => by injection e with e; subst e; exact ⟨_, _, _, hb, hne⟩)
theorem Rds.setBlk {w : World} {size n R : Nat} {p : Option Addr} {xs : List Value} (h : Rds w size p n xs) (hne : ∀ a, p = some a → a.block ≠ R) (j : Nat) (v : Value) : Rds (w.setCell ⟨R, j, none⟩ v) size p n xs := by
  refine ⟨h.1, fun hn => ?_⟩
  obtain ⟨g, off, hp, hc⟩ := h.2 hn
  have := hne _ hp
  refine ⟨g, off, hp, fun i hi => ?_⟩
  rw [World.cell?_of_block (w := w) (heap_setCell_other w _ g _ this)]
  exact hc i hi

theorem is_true (p : Option Addr) (n cp : Nat) {B gq c cap : Nat} {vs : List Value} {w : World} (hq : QRow w 57 B gq c cap vs) (hn : vs.length = n) (hl : n ≤ 1000000) (hcap : cap ≤ 1000000) :
    Calls Try.prog 16 #[.pointer (some ⟨gq, 0, none⟩), .agg #[.slice p n cp, .int .i64 (cap : Nat)]] w fun e w' => e = .returned (.bool true) ∧ Below w.heap.size w w' := by
  subst hn
  have hq2 := hq.below (below_alloc (Below.refl _ _) (.cells #[.slice p vs.length cp, .int .i64 (cap : Nat)] 36))
  have HL := Lib.hid (fun m : Nat => (q_len_int (hq2.dn m) hcap hl).mono fun e w' ⟨he, hw⟩ => show e = Ending.returned (.int .i64 (vs.length : Nat)) ∧ ∃ k, w' = (((w.alloc (.cells #[.slice p vs.length cp, .int .i64 (cap : Nat)] 36)).drewN m).drewN k) from ⟨he, 0, hw.symm⟩)
  have HR := Lib.hid (fun m : Nat => (q_room_int (hq2.dn m) hcap hl).mono fun e w' ⟨he, hw⟩ => show e = Ending.returned (.int .i64 (cap : Nat)) ∧ ∃ k, w' = (((w.alloc (.cells #[.slice p vs.length cp, .int .i64 (cap : Nat)] 36)).drewN m).drewN k) from ⟨he, 0, hw.symm⟩)
  clear hq hq2
  go_enter Try.func16, Try.ntmps16
  go_wp2_with fail
  go_quiet (first | (go_at_call 15; exact quiet_of (HL.out _)) | (go_at_call 23; exact quiet_of (HR.out _)))
  go_wp2
  go_ret
  exact ⟨rfl, below_drewN (below_alloc (Below.refl _ _) _) _⟩
end Go.Proofs.Ytckejjpillcdgaa
