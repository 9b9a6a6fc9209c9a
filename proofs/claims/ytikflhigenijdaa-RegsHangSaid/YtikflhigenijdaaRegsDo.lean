/- The contract of Do. -/
import Derived.Test.YtikflhigenijdaaRegsOf
namespace Go.Proofs.Ytikflhigenijdaa
open Go.RowKit

theorem FileAt.alloc {w : World} {T : TypeId} {g : Nat} {x : List Int} {same : Bool} {sys : List Int} (h : FileAt w T g x same sys) (o : Obj) : FileAt (w.alloc o) T g x same sys :=
  h.below (below_alloc (Below.refl _ _) o)

/-- What an instruction computes of two registers' values. -/
def valZ (op a b imm kind : Int) (sys : List Int) : Int :=
  if op = 6 then IntKind.u64.wrap (IntKind.u64.wrap imm * 2 ^ (16 * kind).toNat) else
  if op = 7 then IntKind.u64.wrap (a + IntKind.u64.wrap imm) else
  if op = 8 then IntKind.u64.wrap (a + b) else
  if op = 9 then IntKind.u64.wrap (a - b) else
  if op = 10 then bits BinOp.and IntKind.u64 a b else
  if op = 11 then bits BinOp.or IntKind.u64 a b else
  if op = 12 then bits BinOp.xor IntKind.u64 a b else
  if op = 13 then IntKind.u64.wrap (a - b) else sys.getD kind.toNat 0

def DoSaid (g : Nat) (op d n m imm kind : Int) (x x' : List Int) (same same' : Bool) (sys : List Int) : Prop :=
  ∀ w : World, FileAt w 30 g x same sys → Calls Try.prog 18 #[.pointer (some ⟨g, 0, none⟩), instrV op d n m imm kind] w fun e w' => e = .returned (.tuple #[]) ∧ FileAt w' 30 g x' same' sys ∧ w.grownBy w' (some g)

set_option maxHeartbeats 400000 in
theorem do_arith (g : Nat) (op d n m imm kind : Int) {x : List Int} {same : Bool} {sys : List Int} (hop : op = 7 ∨ op = 8 ∨ op = 9 ∨ op = 10 ∨ op = 11 ∨ op = 12) :
    DoSaid g op d n m imm kind x (setX x d (valZ op (getX x n) (getX x m) imm kind sys)) same same sys := by
  intro w hf0
  have hf := hf0.alloc (.cells #[.int .i64 op, .int .i64 d, .int .i64 n, .int .i64 m, .int .i64 imm, .int .i64 kind] 42)
  have HF := Lib.hid (fun k : Nat => show FileAt ((w.alloc (.cells #[.int .i64 op, .int .i64 d, .int .i64 n, .int .i64 m, .int .i64 imm, .int .i64 kind] 42)).drewN k) 30 g x same sys from hf)
  have hlt := hf0.lt
  clear hf hf0
  rcases hop with rfl | rfl | rfl | rfl | rfl | rfl
  all_goals
    go_enter Try.func18, Try.ntmps18
    go_wp2_with fail
    go_quiet ((go_at_call 10; exact quiet_of (fget_any g _ _ (HF.out _))))
    go_wp2_with fail
    refine (fset_any g _ _ _ (HF.out _)).mono ?_
    rintro e w1 ⟨rfl, hf1, hg⟩
    have HF1 := Lib.hid hf1
    clear hf1
    go_wp2
    go_end0
    exact ⟨rfl, HF1.out, (grown_dn (World.grownBy_alloc w _ _) _).trans hg⟩

set_option maxHeartbeats 400000 in
theorem do_movz (g : Nat) (d n m imm kind : Int) {x : List Int} {same : Bool} {sys : List Int} (hk : 0 ≤ kind ∧ kind ≤ 3) :
    DoSaid g 6 d n m imm kind x (setX x d (valZ 6 (getX x n) (getX x m) imm kind sys)) same same sys := by
  intro w hf0
  have hf := hf0.alloc (.cells #[.int .i64 6, .int .i64 d, .int .i64 n, .int .i64 m, .int .i64 imm, .int .i64 kind] 42)
  have HF := Lib.hid (fun k : Nat => show FileAt ((w.alloc (.cells #[.int .i64 6, .int .i64 d, .int .i64 n, .int .i64 m, .int .i64 imm, .int .i64 kind] 42)).drewN k) 30 g x same sys from hf)
  have hlt := hf0.lt
  clear hf hf0
  have e1 : IntKind.i64.wrap (16 * kind) = 16 * kind := IntWalk.i64_in _ (by omega)
  go_enter Try.func18, Try.ntmps18
  go_wp2_with fail
  go_quiet ((go_at_call 10; exact quiet_of (fget_any g _ _ (HF.out _))))
  go_wp2_with fail
  refine region_tail 10 (by kernel_rfl) (by kernel_rfl) ?_
  simp only [List.take_succ_cons, List.take_zero, List.drop_succ_cons, List.drop_zero]
  repeat still_step
  refine wpStill_nil ?_
  go_wp2_with fail
  refine (fset_any g _ _ _ (HF.out _)).mono ?_
  rintro e w1 ⟨rfl, hf1, hg⟩
  have HF1 := Lib.hid hf1
  clear hf1
  go_wp2
  go_end0
  exact ⟨rfl, HF1.out, (grown_dn (World.grownBy_alloc w _ _) _).trans hg⟩

set_option maxHeartbeats 400000 in
theorem do_subs (g : Nat) (d n m imm kind : Int) {x : List Int} {same : Bool} {sys : List Int} :
    DoSaid g 13 d n m imm kind x (setX x d (valZ 13 (getX x n) (getX x m) imm kind sys)) same (getX x n == getX x m) sys := by
  intro w hf0
  have hf := hf0.alloc (.cells #[.int .i64 13, .int .i64 d, .int .i64 n, .int .i64 m, .int .i64 imm, .int .i64 kind] 42)
  have HF := Lib.hid (fun k : Nat => show FileAt ((w.alloc (.cells #[.int .i64 13, .int .i64 d, .int .i64 n, .int .i64 m, .int .i64 imm, .int .i64 kind] 42)).drewN k) 30 g x same sys from hf)
  have hlt := hf0.lt
  clear hf hf0
  go_enter Try.func18, Try.ntmps18
  go_wp2_with fail
  go_quiet ((go_at_call 10; exact quiet_of (fget_any g _ _ (HF.out _))))
  go_wp2_with fail
  refine (fset_any g _ _ _ (HF.out _)).mono ?_
  rintro e w1 ⟨rfl, hf1, hg⟩
  have hfl := hf1.flag
  have hfr := hf1.free 31
  have HF1 := Lib.hid (hf1.setFlag (getX x n == getX x m))
  have HG := Lib.hid ((grown_dn (World.grownBy_alloc w (.cells #[.int .i64 13, .int .i64 d, .int .i64 n, .int .i64 m, .int .i64 imm, .int .i64 kind] 42) (some g)) nq).trans hg)
  clear hf1 hg
  go_wp2
  go_end0
  exact ⟨rfl, HF1.out, HG.out.trans ⟨rfl, rfl, rfl, by simp [World.setCell], fun j _ hj => heap_setCell_other w1 _ j _ (fun e => hj (by simp [e]))⟩⟩

set_option maxHeartbeats 400000 in
theorem do_mrs (g : Nat) (d n m imm kind : Int) {x : List Int} {same : Bool} {sys : List Int} (hk : 0 ≤ kind ∧ kind ≤ 2) :
    DoSaid g 23 d n m imm kind x (setX x d (valZ 23 (getX x n) (getX x m) imm kind sys)) same same sys := by
  intro w hf0
  have hf := hf0.alloc (.cells #[.int .i64 23, .int .i64 d, .int .i64 n, .int .i64 m, .int .i64 imm, .int .i64 kind] 42)
  have HF := Lib.hid (fun k : Nat => show FileAt ((w.alloc (.cells #[.int .i64 23, .int .i64 d, .int .i64 n, .int .i64 m, .int .i64 imm, .int .i64 kind] 42)).drewN k) 30 g x same sys from hf)
  have hlt := hf0.lt
  obtain ⟨k, rfl⟩ := Int.eq_ofNat_of_zero_le hk.1
  have hc := hf.sysAt k (by omega)
  have HV := Lib.hid (show valZ 23 (getX x n) (getX x m) imm (k : Int) sys = sys.getD k 0 from rfl)
  generalize sys.getD k 0 = v at *
  clear hf hf0
  go_enter Try.func18, Try.ntmps18
  go_wp2_with fail
  go_quiet ((go_at_call 10; exact quiet_of (fget_any g _ _ (HF.out _))))
  go_wp2_with fail
  refine region_tail 10 (by kernel_rfl) (by kernel_rfl) ?_
  simp only [List.take_succ_cons, List.take_zero, List.drop_succ_cons, List.drop_zero]
  repeat still_step
  refine wpStill_nil ?_
  go_wp2_with fail
  refine (fset_any g _ _ _ (HF.out _)).mono ?_
  rintro e w1 ⟨rfl, hf1, hg⟩
  have HF1 := Lib.hid hf1
  clear hf1
  go_wp2
  go_end0
  exact ⟨rfl, by rw [HV.out]; exact HF1.out, (grown_dn (World.grownBy_alloc w _ _) _).trans hg⟩

set_option maxHeartbeats 800000 in
theorem do_none (g : Nat) (op d n m imm kind : Int) {x : List Int} {same : Bool} {sys : List Int}
    (hop : op = 1 ∨ op = 2 ∨ op = 3 ∨ op = 4 ∨ op = 5 ∨ op = 14 ∨ op = 15 ∨ op = 16 ∨ op = 17 ∨ op = 18 ∨ op = 19 ∨ op = 20 ∨ op = 21 ∨ op = 22) :
    DoSaid g op d n m imm kind x x same same sys := by
  intro w hf0
  have hf := hf0.alloc (.cells #[.int .i64 op, .int .i64 d, .int .i64 n, .int .i64 m, .int .i64 imm, .int .i64 kind] 42)
  have HF := Lib.hid (fun k : Nat => show FileAt ((w.alloc (.cells #[.int .i64 op, .int .i64 d, .int .i64 n, .int .i64 m, .int .i64 imm, .int .i64 kind] 42)).drewN k) 30 g x same sys from hf)
  have hlt := hf0.lt
  clear hf hf0
  rcases hop with rfl | rfl | rfl | rfl | rfl | rfl | rfl | rfl | rfl | rfl | rfl | rfl | rfl | rfl
  all_goals
    go_enter Try.func18, Try.ntmps18
    go_wp2_with fail
    go_quiet ((go_at_call 10; exact quiet_of (fget_any g _ _ (HF.out _))))
    go_wp2
    go_end0
    exact ⟨rfl, HF.out _, grown_dn (World.grownBy_alloc w _ _) _⟩

end Go.Proofs.Ytikflhigenijdaa
