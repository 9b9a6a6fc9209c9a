/- Reading a condition: a model of it, and the small functions. -/
import Derived.Test.YteepoohcdmjmhaaCondName
import Derived.Test.YteepoohcdmjmhaaCondTree
namespace Go.Proofs.Yteepoohcdmjmhaa
open Go.RowKit
set_option linter.unusedVariables false
set_option linter.unusedSimpArgs false

inductive PF where
  | one | both | either
  | bothL (c : CT)
  | eitherL (c : CT)
def cF : CT := .mk 0 0 0 0 0 []
def okR (s : RS) : Bool := decide (s.code = 0)
def moreR (tk : List Tk) (s : RS) (m : Nat) : RS := if 64 < m + 1 then failR tk s 120 else s
def valueR (tk : List Tk) (s : RS) : Nat × RS := numberR tk (mustR tk s 3 ⟨#[61]⟩)
def regR (tk : List Tk) (s : RS) : RS := if regN (peekR tk s).2.1 = none ∨ regN (peekR tk s).2.1 = some 31 ∨ ¬ (peekR tk s).1 = 1 then failR tk s 110 else s
def leafR (tk : List Tk) (s : RS) : CT × RS :=
  if isR tk s 3 ⟨#[91]⟩ then
    let a := numberR tk (nextR tk s)
    let v := valueR tk (mustR tk a.2 3 ⟨#[93]⟩)
    (.mk 2 0 0 a.1 v.1 [], v.2)
  else if isR tk s 1 ⟨#[116, 114, 117, 101]⟩ then (.mk 7 0 0 0 0 [], nextR tk s)
  else if isR tk s 1 ⟨#[102, 97, 117, 108, 116, 115]⟩ then
    let c := smallR tk (nextR tk s) 4
    let v := valueR tk c.2
    (.mk 3 (c.1 : Nat) 0 0 v.1 [], v.2)
  else
    let c := smallR tk s 4
    let s1 := mustR tk c.2 3 ⟨#[58]⟩
    let v := valueR tk (nextR tk (regR tk s1))
    (.mk 1 (c.1 : Nat) (((regN (peekR tk s1).2.1).getD 0 : Nat) : Int) 0 v.1 [], v.2)
def parseF (tk : List Tk) : Nat → PF → RS → Nat → CT × RS × Nat
  | 0, _, s, m => (cF, s, m)
  | f + 1, .either, s, m =>
    let y := parseF tk f .both s m
    parseF tk f (.eitherL y.1) y.2.1 y.2.2
  | f + 1, .eitherL c, s, m =>
    if okR s && isR tk s 3 ⟨#[92, 47]⟩ then
      let y := parseF tk f .both (moreR tk (nextR tk s) m) (m + 1)
      parseF tk f (.eitherL (.mk 5 0 0 0 0 [c, y.1])) y.2.1 y.2.2
    else (c, s, m)
  | f + 1, .both, s, m =>
    let y := parseF tk f .one s m
    parseF tk f (.bothL y.1) y.2.1 y.2.2
  | f + 1, .bothL c, s, m =>
    if okR s && isR tk s 3 ⟨#[47, 92]⟩ then
      let y := parseF tk f .one (moreR tk (nextR tk s) m) (m + 1)
      parseF tk f (.bothL (.mk 4 0 0 0 0 [c, y.1])) y.2.1 y.2.2
    else (c, s, m)
  | f + 1, .one, s, m =>
    if okR s && isR tk s 3 ⟨#[40]⟩ then
      let y := parseF tk f .either (nextR tk s) m
      (y.1, mustR tk y.2.1 3 ⟨#[41]⟩, y.2.2)
    else if okR (moreR tk s m) then
      if isR tk (moreR tk s m) 3 ⟨#[126]⟩ then
        let y := parseF tk f .one (nextR tk (moreR tk s m)) (m + 1)
        (.mk 6 0 0 0 0 [y.1], y.2.1, y.2.2)
      else
        let z := leafR tk (moreR tk s m)
        (z.1, z.2, m + 1)
    else (cF, moreR tk s m, m + 1)

/-! A reader never goes back, and a fault stays. -/
structure Mono (s t : RS) : Prop where
  k : s.k ≤ t.k
  code : t.code = 0 → s.code = 0
theorem Mono.refl (s : RS) : Mono s s := ⟨Nat.le_refl _, id⟩
theorem Mono.trans {a b c : RS} (h : Mono a b) (k : Mono b c) : Mono a c := ⟨Nat.le_trans h.k k.k, fun e => h.code (k.code e)⟩
theorem mono_next (tk : List Tk) (s : RS) : Mono s (nextR tk s) := by
  unfold nextR onR
  split
  · exact Mono.refl s
  · exact ⟨Nat.le_succ _, id⟩
theorem mono_fail (tk : List Tk) (s : RS) (e : Int) : Mono s (failR tk s e) := by
  unfold failR
  split
  · rename_i h; exact ⟨Nat.le_refl _, fun _ => h⟩
  · exact Mono.refl s
theorem mono_must (tk : List Tk) (s : RS) (k : Int) (t : ByteArray) : Mono s (mustR tk s k t) := by
  unfold mustR
  split
  · exact mono_next tk s
  · exact mono_fail tk s _
theorem mono_number (tk : List Tk) (s : RS) : Mono s (numberR tk s).2 := by
  unfold numberR
  split
  · exact mono_next tk s
  · exact mono_fail tk s _
theorem mono_small (tk : List Tk) (s : RS) (n : Nat) : Mono s (smallR tk s n).2 := by
  unfold smallR
  split
  · exact mono_fail tk s _
  · exact mono_number tk s
theorem mono_more (tk : List Tk) (s : RS) (m : Nat) : Mono s (moreR tk s m) := by
  unfold moreR
  split
  · exact mono_fail tk s _
  · exact Mono.refl s
theorem mono_value (tk : List Tk) (s : RS) : Mono s (valueR tk s).2 := by
  unfold valueR
  exact (mono_must tk s _ _).trans (mono_number tk _)
theorem mono_reg (tk : List Tk) (s : RS) : Mono s (regR tk s) := by
  unfold regR
  split
  · exact mono_fail tk s _
  · exact Mono.refl s
theorem mono_leaf (tk : List Tk) (s : RS) : Mono s (leafR tk s).2 := by
  unfold leafR
  split
  · exact (((mono_next tk s).trans (mono_number tk _)).trans (mono_must tk _ _ _)).trans (mono_value tk _)
  · split
    · exact mono_next tk s
    · split
      · exact ((mono_next tk s).trans (mono_small tk _ _)).trans (mono_value tk _)
      · exact ((((mono_small tk s _).trans (mono_must tk _ _ _)).trans (mono_reg tk _)).trans (mono_next tk _)).trans (mono_value tk _)
theorem mono_parse (tk : List Tk) : ∀ (f : Nat) (F : PF) (s : RS) (m : Nat), Mono s (parseF tk f F s m).2.1
  | 0, _, s, m => by unfold parseF; exact Mono.refl s
  | f + 1, .either, s, m => by
    simp only [parseF]
    exact (mono_parse tk f _ _ _).trans (mono_parse tk f _ _ _)
  | f + 1, .both, s, m => by
    simp only [parseF]
    exact (mono_parse tk f _ _ _).trans (mono_parse tk f _ _ _)
  | f + 1, .eitherL c, s, m => by
    simp only [parseF]
    split
    · exact (((mono_next tk s).trans (mono_more tk _ _)).trans (mono_parse tk f _ _ _)).trans (mono_parse tk f _ _ _)
    · exact Mono.refl s
  | f + 1, .bothL c, s, m => by
    simp only [parseF]
    split
    · exact (((mono_next tk s).trans (mono_more tk _ _)).trans (mono_parse tk f _ _ _)).trans (mono_parse tk f _ _ _)
    · exact Mono.refl s
  | f + 1, .one, s, m => by
    simp only [parseF]
    split
    · exact ((mono_next tk s).trans (mono_parse tk f _ _ _)).trans (mono_must tk _ _ _)
    · split
      · split
        · exact ((mono_more tk s m).trans (mono_next tk _)).trans (mono_parse tk f _ _ _)
        · exact (mono_more tk s m).trans (mono_leaf tk _)
      · exact mono_more tk s m
/-- No more than so many parts are counted. -/
def Few (b : Nat) (s : RS) (m : Nat) : Prop := m ≤ b ∧ (s.code = 0 → m ≤ 64)
theorem few_more {tk : List Tk} {s : RS} {m b : Nat} (h : m ≤ b) : Few (b + 1) (moreR tk s m) (m + 1) := by
  refine ⟨by omega, fun e => ?_⟩
  unfold moreR at e
  split at e
  · unfold failR at e
    split at e
    · exact absurd e (by simp)
    · contradiction
  · omega
theorem Few.mono {s t : RS} {m b : Nat} (h : Few b s m) (hm : Mono s t) : Few b t m := ⟨h.1, fun e => h.2 (hm.code e)⟩
theorem Few.wider {s : RS} {m b c : Nat} (h : Few b s m) (hb : b ≤ c) : Few c s m := ⟨Nat.le_trans h.1 hb, h.2⟩
theorem few_ok {s : RS} {m b : Nat} (h : Few b s m) (ho : okR s = true) : m ≤ 64 := h.2 (by simpa [okR] using ho)
def PF.cap : PF → Nat
  | .bothL _ => 66
  | .eitherL _ => 66
  | _ => 65
theorem few_parse (tk : List Tk) : ∀ (f : Nat) (F : PF) (s : RS) (m : Nat), Few F.cap s m → Few 66 (parseF tk f F s m).2.1 (parseF tk f F s m).2.2
  | 0, F, s, m, h => by unfold parseF; exact h.wider (by cases F <;> simp [PF.cap])
  | f + 1, .either, s, m, h => by
    simp only [parseF]
    exact few_parse tk f (.eitherL _) _ _ (few_parse tk f .both s m h)
  | f + 1, .both, s, m, h => by
    simp only [parseF]
    exact few_parse tk f (.bothL _) _ _ (few_parse tk f .one s m h)
  | f + 1, .eitherL c, s, m, h => by
    simp only [parseF]
    split
    · rename_i e
      have ho := few_ok h (by simp at e; exact e.1)
      exact few_parse tk f (.eitherL _) _ _ (few_parse tk f .both _ _ (few_more (b := 64) ho))
    · exact h
  | f + 1, .bothL c, s, m, h => by
    simp only [parseF]
    split
    · rename_i e
      have ho := few_ok h (by simp at e; exact e.1)
      exact few_parse tk f (.bothL _) _ _ (few_parse tk f .one _ _ (few_more (b := 64) ho))
    · exact h
  | f + 1, .one, s, m, h => by
    simp only [parseF]
    split
    · rename_i e
      exact (few_parse tk f .either _ _ (h.mono (mono_next tk s))).mono (mono_must tk _ _ _)
    · have hm : Few 66 (moreR tk s m) (m + 1) := few_more (b := 65) h.1
      split
      · rename_i e
        split
        · exact few_parse tk f .one _ _ ((show Few 65 (moreR tk s m) (m + 1) from ⟨by have := few_ok hm e; omega, hm.2⟩).mono (mono_next tk _))
        · exact hm.mono (mono_leaf tk _)
      · exact hm

/-! The small functions. -/
def CAt (w : World) (r n : Nat) (p : Option Addr) (c : Nat) (tk : List Tk) (x : Nat) (s : RS) (m : Nat) : Prop :=
  Blk w 70 x [.pointer (some ⟨r, 0, none⟩), .int .i64 (m : Nat)] ∧ RdrAt w r n p c tk s ∧ x ≠ r ∧ ∀ a, p = some a → a.block ≠ x
section
variable {w w' : World} {r n : Nat} {p : Option Addr} {c : Nat} {tk : List Tk} {x : Nat} {s s' : RS} {m : Nat}
theorem CAt.below (h : CAt w r n p c tk x s m) (hb : Below w.heap.size w w') : CAt w' r n p c tk x s m := ⟨h.1.below hb, h.2.1.below hb, h.2.2⟩
theorem CAt.dn (h : CAt w r n p c tk x s m) (k : Nat) : CAt (w.drewN k) r n p c tk x s m := h
theorem CAt.lt (h : CAt w r n p c tk x s m) : x < w.heap.size := h.1.lt
theorem CAt.rd (h : CAt w r n p c tk x s m) (hr : RdrAt w' r n p c tk s') (hg : w.grownBy w' (some r)) : CAt w' r n p c tk x s' m :=
  ⟨h.1.kept hg (fun e => h.2.2.1 (by injection e)), hr, h.2.2⟩
end
theorem RdrAt.kept' {w : World} {r n : Nat} {p : Option Addr} {c : Nat} {tk : List Tk} {s : RS} {x : Nat} (h : RdrAt w r n p c tk s) (hx : x ≠ r ∧ ∀ a, p = some a → a.block ≠ x) {j : Nat} (v : Value) : RdrAt (w.setCell ⟨x, j, none⟩ v) r n p c tk s :=
  ⟨h.1.other (fun e => hx.1 e.symm) v, h.2.1.grownR (grown_setR w x j v) (fun a ha e => hx.2 a ha (by injection e)), h.2.2⟩
theorem ok_any {r n : Nat} {p : Option Addr} {c : Nat} {tk : List Tk} {x : Nat} {s : RS} {m : Nat} (w : World) (h : CAt w r n p c tk x s m) :
    Calls Try.prog 47 #[.pointer (some ⟨x, 0, none⟩)] w fun e w' => e = .returned (.bool (okR s)) ∧ Below w.heap.size w w' := by
  have HB := Lib.hid (rbad_any w h.2.1)
  have c0 := h.1.cell 0
  simp only [List.getElem?_cons_zero, List.getElem?_cons_succ] at c0
  have hf := fun (a b : Int) (w : World) => (show (Instr.field 33 (.agg #[.int .i64 a, .int .i64 b]) 0).run Try.prog w = .ok (.int .i64 a) w by kernel_rfl)
  have hx := h.lt
  clear h
  go_enter Try.func47, Try.ntmps47
  go_wp2_with fail
  refine (HB.out).mono ?_
  rintro e w2 ⟨rfl, hb⟩
  have HB2 := Lib.hid hb
  clear hb HB
  have hfc := hf s.code s.at_
  clear hf
  go_wp2_with fail
  go_ret
  refine ⟨?_, HB2.out⟩
  unfold okR
  by_cases hc : s.code = 0 <;> simp [hc]
set_option maxRecDepth 100000 in
set_option maxHeartbeats 1600000 in
theorem more_any {r n : Nat} {p : Option Addr} {c : Nat} {tk : List Tk} {x : Nat} {s : RS} {m : Nat} (w : World) (h : CAt w r n p c tk x s m) (hm : m ≤ 1000) :
    Calls Try.prog 49 #[.pointer (some ⟨x, 0, none⟩)] w fun e w' => e = .returned (.tuple #[]) ∧ CAt w' r n p c tk x (moreR tk s m) (m + 1) ∧ G2 r x w w' := by
  have HM := Lib.hid (show moreR tk s m = if 64 < m + 1 then failR tk s 120 else s from rfl)
  have c0 := h.1.cell 0
  have c1 := h.1.cell 1
  have f1 := h.1.free 1
  simp only [List.getElem?_cons_zero, List.getElem?_cons_succ] at c0 c1
  have hwr : IntKind.i64.wrap ((m : Int) + 1) = ((m : Int) + 1) := IntWalk.i64_in _ (by omega)
  have HS := Lib.hid (show CAt (w.setCell ⟨x, 1, none⟩ (.int .i64 ((m : Int) + 1))) r n p c tk x s (m + 1) from
    ⟨by simpa using h.1.set 1 (.int .i64 ((m : Int) + 1)), h.2.1.kept' (h.2.2) _, h.2.2⟩)
  have HG := Lib.hid (G2.ofX (r := r) (grown_setR w x 1 (.int .i64 ((m : Int) + 1))))
  have hx := h.lt
  have d0 := HS.out.1.cell 0
  have d1 := HS.out.1.cell 1
  simp only [List.getElem?_cons_zero, List.getElem?_cons_succ] at d0 d1
  clear h
  by_cases hk : 64 < m + 1
  · have hgi : (64 : Int) < (m : Int) + 1 := by omega
    rw [if_pos hk] at HM
    go_enter Try.func49, Try.ntmps49
    go_wp2_with fail
    refine (fail_any _ 120 HS.out.2.1).mono ?_
    rintro e w2 ⟨rfl, hr, hg⟩
    have HR := Lib.hid hr
    have HG2 := Lib.hid hg
    clear hr hg
    go_wp2_with fail
    go_end0
    exact ⟨rfl, by rw [HM.out]; exact HS.out.rd HR.out HG2.out, HG.out.trans (G2.ofR HG2.out)⟩
  · have hgi : ¬ (64 : Int) < (m : Int) + 1 := by omega
    rw [if_neg hk] at HM
    go_enter Try.func49, Try.ntmps49
    go_wp2_with fail
    go_end0
    exact ⟨rfl, by rw [HM.out]; exact HS.out, HG.out⟩
end Go.Proofs.Yteepoohcdmjmhaa
