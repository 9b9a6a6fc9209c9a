/- Reading a condition: one part. -/
import Derived.Test.YtmnojnopejhebaaGreatMgad
namespace Go.Proofs.YtmnojnopejhebaaGreat
set_option linter.unusedVariables false
set_option linter.unusedSimpArgs false
set_option maxRecDepth 100000
set_option maxHeartbeats 25600000
section
open Go.RowKit
inductive PF where
 | one | both | either
 | bothL (c : CT)
 | eitherL (c : CT)
def cF : CT := .mk 0 0 0 0 0 []
def okR (s : RS) : Bool := decide (s.code = 0)
def c0z (tk : List Tk) (s : RS) (m : Nat) : RS := if 64 < m + 1 then e0e tk s 120 else s
def d0v (tk : List Tk) (s : RS) : Nat × RS := a0c tk (d0z tk s 3 ⟨#[61]⟩)
def regR (tk : List Tk) (s : RS) : RS := if regN (a0p tk s).2.1 = none ∨ regN (a0p tk s).2.1 = some 31 ∨ ¬ (a0p tk s).1 = 1 then e0e tk s 110 else s
def h0u (tk : List Tk) (s : RS) : CT × RS :=
 if isR tk s 3 ⟨#[91]⟩ then
  let a := a0c tk (a0v tk s)
  let v := d0v tk (d0z tk a.2 3 ⟨#[93]⟩)
  (.mk 2 0 0 a.1 v.1 [], v.2)
 else if isR tk s 1 ⟨#[116, 114, 117, 101]⟩ then (.mk 7 0 0 0 0 [], a0v tk s)
 else if isR tk s 1 ⟨#[102, 97, 117, 108, 116, 115]⟩ then
  let c := b0d tk (a0v tk s) 4
  let v := d0v tk c.2
  (.mk 3 (c.1 : Nat) 0 0 v.1 [], v.2)
 else
  let c := b0d tk s 4
  let s1 := d0z tk c.2 3 ⟨#[58]⟩
  let v := d0v tk (a0v tk (regR tk s1))
  (.mk 1 (c.1 : Nat) (((regN (a0p tk s1).2.1).getD 0 : Nat) : Int) 0 v.1 [], v.2)
def a0e (tk : List Tk) : Nat → PF → RS → Nat → CT × RS × Nat
 | 0, _, s, m => (cF, s, m)
 | f + 1, .either, s, m =>
  let y := a0e tk f .both s m
  a0e tk f (.eitherL y.1) y.2.1 y.2.2
 | f + 1, .eitherL c, s, m =>
  if okR s && isR tk s 3 ⟨#[92, 47]⟩ then
   let y := a0e tk f .both (c0z tk (a0v tk s) m) (m + 1)
   a0e tk f (.eitherL (.mk 5 0 0 0 0 [c, y.1])) y.2.1 y.2.2
  else (c, s, m)
 | f + 1, .both, s, m =>
  let y := a0e tk f .one s m
  a0e tk f (.bothL y.1) y.2.1 y.2.2
 | f + 1, .bothL c, s, m =>
  if okR s && isR tk s 3 ⟨#[47, 92]⟩ then
   let y := a0e tk f .one (c0z tk (a0v tk s) m) (m + 1)
   a0e tk f (.bothL (.mk 4 0 0 0 0 [c, y.1])) y.2.1 y.2.2
  else (c, s, m)
 | f + 1, .one, s, m =>
  if okR s && isR tk s 3 ⟨#[40]⟩ then
   let y := a0e tk f .either (a0v tk s) m
   (y.1, d0z tk y.2.1 3 ⟨#[41]⟩, y.2.2)
  else if okR (c0z tk s m) then
   if isR tk (c0z tk s m) 3 ⟨#[126]⟩ then
    let y := a0e tk f .one (a0v tk (c0z tk s m)) (m + 1)
    (.mk 6 0 0 0 0 [y.1], y.2.1, y.2.2)
   else
    let z := h0u tk (c0z tk s m)
    (z.1, z.2, m + 1)
  else (cF, c0z tk s m, m + 1)
structure Mono (s t : RS) : Prop where
 k : s.k ≤ t.k
 code : t.code = 0 → s.code = 0
theorem Mono.refl (s : RS) : Mono s s := ⟨Nat.le_refl _, id⟩
theorem Mono.trans {a b c : RS} (h : Mono a b) (k : Mono b c) : Mono a c := ⟨Nat.le_trans h.k k.k, fun e => h.code (k.code e)⟩
theorem d0l (tk : List Tk) (s : RS) : Mono s (a0v tk s) := by
 unfold a0v onR
 split
 ·exact Mono.refl s
 ·exact ⟨Nat.le_succ _, id⟩
theorem i0w (tk : List Tk) (s : RS) (e : Int) : Mono s (e0e tk s e) := by
 unfold e0e
 split
 ·rename_i h; exact ⟨Nat.le_refl _, fun _ => h⟩
 ·exact Mono.refl s
theorem k0m (tk : List Tk) (s : RS) (k : Int) (t : ByteArray) : Mono s (d0z tk s k t) := by
 unfold d0z
 split
 ·exact d0l tk s
 ·exact i0w tk s _
theorem l0k (tk : List Tk) (s : RS) : Mono s (a0c tk s).2 := by
 unfold a0c
 split
 ·exact d0l tk s
 ·exact i0w tk s _
theorem q0r (tk : List Tk) (s : RS) (n : Nat) : Mono s (b0d tk s n).2 := by
 unfold b0d
 split
 ·exact i0w tk s _
 ·exact l0k tk s
theorem f0v (tk : List Tk) (s : RS) (m : Nat) : Mono s (c0z tk s m) := by
 unfold c0z
 split
 ·exact i0w tk s _
 ·exact Mono.refl s
theorem m0p (tk : List Tk) (s : RS) : Mono s (d0v tk s).2 := by
 unfold d0v
 exact (k0m tk s _ _).trans (l0k tk _)
theorem j1d (tk : List Tk) (s : RS) : Mono s (regR tk s) := by
 unfold regR
 split
 ·exact i0w tk s _
 ·exact Mono.refl s
theorem t0u (tk : List Tk) (s : RS) : Mono s (h0u tk s).2 := by
 unfold h0u
 split
 ·exact (((d0l tk s).trans (l0k tk _)).trans (k0m tk _ _ _)).trans (m0p tk _)
 ·split
  ·exact d0l tk s
  ·split
   ·exact ((d0l tk s).trans (q0r tk _ _)).trans (m0p tk _)
   ·exact ((((q0r tk s _).trans (k0m tk _ _ _)).trans (j1d tk _)).trans (d0l tk _)).trans (m0p tk _)
theorem c0r (tk : List Tk) : ∀ (f : Nat) (F : PF) (s : RS) (m : Nat), Mono s (a0e tk f F s m).2.1
 | 0, _, s, m => by unfold a0e; exact Mono.refl s
 | f + 1, .either, s, m => by
  simp only [a0e]
  exact (c0r tk f _ _ _).trans (c0r tk f _ _ _)
 | f + 1, .both, s, m => by
  simp only [a0e]
  exact (c0r tk f _ _ _).trans (c0r tk f _ _ _)
 | f + 1, .eitherL c, s, m => by
  simp only [a0e]
  split
  ·exact (((d0l tk s).trans (f0v tk _ _)).trans (c0r tk f _ _ _)).trans (c0r tk f _ _ _)
  ·exact Mono.refl s
 | f + 1, .bothL c, s, m => by
  simp only [a0e]
  split
  ·exact (((d0l tk s).trans (f0v tk _ _)).trans (c0r tk f _ _ _)).trans (c0r tk f _ _ _)
  ·exact Mono.refl s
 | f + 1, .one, s, m => by
  simp only [a0e]
  split
  ·exact ((d0l tk s).trans (c0r tk f _ _ _)).trans (k0m tk _ _ _)
  ·split
   ·split
    ·exact ((f0v tk s m).trans (d0l tk _)).trans (c0r tk f _ _ _)
    ·exact (f0v tk s m).trans (t0u tk _)
   ·exact f0v tk s m
def Few (b : Nat) (s : RS) (m : Nat) : Prop := m ≤ b ∧ (s.code = 0 → m ≤ 64)
theorem k0z {tk : List Tk} {s : RS} {m b : Nat} (h : m ≤ b) : Few (b + 1) (c0z tk s m) (m + 1) := by
 refine ⟨by omega, fun e => ?_⟩
 unfold c0z at e
 split at e
 ·unfold e0e at e
  split at e
  ·exact absurd e (by simp)
  ·contradiction
 ·omega
theorem Few.mono {s t : RS} {m b : Nat} (h : Few b s m) (hm : Mono s t) : Few b t m := ⟨h.1, fun e => h.2 (hm.code e)⟩
theorem Few.wider {s : RS} {m b c : Nat} (h : Few b s m) (hb : b ≤ c) : Few c s m := ⟨Nat.le_trans h.1 hb, h.2⟩
theorem q0w {s : RS} {m b : Nat} (h : Few b s m) (ho : okR s = true) : m ≤ 64 := h.2 (by simpa [okR] using ho)
def PF.cap : PF → Nat
 | .bothL _ => 66
 | .eitherL _ => 66
 | _ => 65
theorem d0b (tk : List Tk) : ∀ (f : Nat) (F : PF) (s : RS) (m : Nat), Few F.cap s m → Few 66 (a0e tk f F s m).2.1 (a0e tk f F s m).2.2
 | 0, F, s, m, h => by unfold a0e; exact h.wider (by cases F <;> simp [PF.cap])
 | f + 1, .either, s, m, h => by
  simp only [a0e]
  exact d0b tk f (.eitherL _) _ _ (d0b tk f .both s m h)
 | f + 1, .both, s, m, h => by
  simp only [a0e]
  exact d0b tk f (.bothL _) _ _ (d0b tk f .one s m h)
 | f + 1, .eitherL c, s, m, h => by
  simp only [a0e]
  split
  ·rename_i e
   have ho := q0w h (by simp at e; exact e.1)
   exact d0b tk f (.eitherL _) _ _ (d0b tk f .both _ _ (k0z (b := 64) ho))
  ·exact h
 | f + 1, .bothL c, s, m, h => by
  simp only [a0e]
  split
  ·rename_i e
   have ho := q0w h (by simp at e; exact e.1)
   exact d0b tk f (.bothL _) _ _ (d0b tk f .one _ _ (k0z (b := 64) ho))
  ·exact h
 | f + 1, .one, s, m, h => by
  simp only [a0e]
  split
  ·rename_i e
   exact (d0b tk f .either _ _ (h.mono (d0l tk s))).mono (k0m tk _ _ _)
  ·have hm : Few 66 (c0z tk s m) (m + 1) := k0z (b := 65) h.1
   split
   ·rename_i e
    split
    ·exact d0b tk f .one _ _ ((show Few 65 (c0z tk s m) (m + 1) from ⟨by have := q0w hm e; omega, hm.2⟩).mono (d0l tk _))
    ·exact hm.mono (t0u tk _)
   ·exact hm
def CAt (w : World) (r n : Nat) (p : Option Addr) (c : Nat) (tk : List Tk) (x : Nat) (s : RS) (m : Nat) : Prop :=
 Blk w 201 x [.pointer (some ⟨r, 0, none⟩), .int .i64 (m : Nat)] ∧ a0y w r n p c tk s ∧ x ≠ r ∧ ∀ a, p = some a → a.block ≠ x
section
variable {w w' : World} {r n : Nat} {p : Option Addr} {c : Nat} {tk : List Tk} {x : Nat} {s s' : RS} {m : Nat}
theorem CAt.below (h : CAt w r n p c tk x s m) (hb : Below w.heap.size w w') : CAt w' r n p c tk x s m := ⟨h.1.below hb, h.2.1.below hb, h.2.2⟩
theorem CAt.dn (h : CAt w r n p c tk x s m) (k : Nat) : CAt (w.drewN k) r n p c tk x s m := h
theorem CAt.lt (h : CAt w r n p c tk x s m) : x < w.heap.size := h.1.lt
theorem CAt.rd (h : CAt w r n p c tk x s m) (hr : a0y w' r n p c tk s') (hg : w.grownBy w' (some r)) : CAt w' r n p c tk x s' m :=
 ⟨h.1.kept hg (fun e => h.2.2.1 (by injection e)), hr, h.2.2⟩
end
theorem a0y.kept' {w : World} {r n : Nat} {p : Option Addr} {c : Nat} {tk : List Tk} {s : RS} {x : Nat} (h : a0y w r n p c tk s) (hx : x ≠ r ∧ ∀ a, p = some a → a.block ≠ x) {j : Nat} (v : Value) : a0y (w.setCell ⟨x, j, none⟩ v) r n p c tk s :=
 ⟨h.1.other (fun e => hx.1 e.symm) v, h.2.1.grownR (a0r w x j v) (fun a ha e => hx.2 a ha (by injection e)), h.2.2⟩
theorem t0s {r n : Nat} {p : Option Addr} {c : Nat} {tk : List Tk} {x : Nat} {s : RS} {m : Nat} (w : World) (h : CAt w r n p c tk x s m) :
  Calls Tryz.prog 171 #[.pointer (some ⟨x, 0, none⟩)] w fun e w' => e = .returned (.bool (okR s)) ∧ Below w.heap.size w w' := by
 have HB := h_ (x0l w h.2.1)
 have c0 := h.1.cell 0
 simp only [gz_, gs_] at c0
 have hf := fun (a b : Int) (w : World) => (show (Instr.field 41 (.agg #[.int .i64 a, .int .i64 b]) 0).run Tryz.prog w = .ok (.int .i64 a) w by kernel_rfl)
 have hx := h.lt
 clear h
 go_enter Tryz.func171, Tryz.ntmps171
 go_wp2_with fail
 refine (HB.out).mono ?_
 rintro e w2 ⟨rfl, hb⟩
 have HB2 := h_ hb
 clear hb HB
 have hfc := hf s.code s.at_
 clear hf
 go_wp2_with fail
 go_ret
 refine ⟨?_, HB2.out⟩
 unfold okR
 by_cases hc : s.code = 0 <;> simp [hc]
theorem o0a {r n : Nat} {p : Option Addr} {c : Nat} {tk : List Tk} {x : Nat} {s : RS} {m : Nat} (w : World) (h : CAt w r n p c tk x s m) (hm : m ≤ 1000) :
  Calls Tryz.prog 172 #[.pointer (some ⟨x, 0, none⟩)] w fun e w' => e = .returned (.tuple #[]) ∧ CAt w' r n p c tk x (c0z tk s m) (m + 1) ∧ G2 r x w w' := by
 have HM := h_ (show c0z tk s m = if 64 < m + 1 then e0e tk s 120 else s from rfl)
 have c0 := h.1.cell 0
 have c1 := h.1.cell 1
 have f1 := h.1.free 1
 simp only [gz_, gs_] at c0 c1
 have hwr : IntKind.i64.wrap ((m : Int) + 1) = ((m : Int) + 1) := IntWalk.i64_in _ (by omega)
 have HS := h_ (show CAt (w.setCell ⟨x, 1, none⟩ (.int .i64 ((m : Int) + 1))) r n p c tk x s (m + 1) from
  ⟨by simpa using h.1.set 1 (.int .i64 ((m : Int) + 1)), h.2.1.kept' (h.2.2) _, h.2.2⟩)
 have HG := h_ (G2.ofX (r := r) (a0r w x 1 (.int .i64 ((m : Int) + 1))))
 have hx := h.lt
 have d0 := HS.out.1.cell 0
 have d1 := HS.out.1.cell 1
 simp only [gz_, gs_] at d0 d1
 clear h
 by_cases hk : 64 < m + 1
 ·have hgi : (64 : Int) < (m : Int) + 1 := by omega
  rw [if_pos hk] at HM
  go_enter Tryz.func172, Tryz.ntmps172
  go_wp2_with fail
  refine (e0j _ 120 HS.out.2.1).mono ?_
  rintro e w2 ⟨rfl, hr, hg⟩
  have HR := h_ hr
  have HG2 := h_ hg
  clear hr hg
  go_wp2_with fail
  go_end0
  exact ⟨rfl, by rw [HM.out]; exact HS.out.rd HR.out HG2.out, HG.out.trans (G2.ofR HG2.out)⟩
 ·have hgi : ¬ (64 : Int) < (m : Int) + 1 := by omega
  rw [if_neg hk] at HM
  go_enter Tryz.func172, Tryz.ntmps172
  go_wp2_with fail
  go_end0
  exact ⟨rfl, by rw [HM.out]; exact HS.out, HG.out⟩
end
section
open Go.RowKit
theorem CAt.kept {w w' : World} {r n : Nat} {p : Option Addr} {c : Nat} {tk : List Tk} {x : Nat} {s s' : RS} {m : Nat} (h : CAt w r n p c tk x s m) (hg : w.grownBy w' (some r)) (hb : Blk w' 172 r [.slice p n c, .int .i64 (s'.k : Nat), .int .i64 s'.code, .int .i64 s'.at_]) (hk : s'.k ≤ n) : CAt w' r n p c tk x s' m :=
 h.rd (h.2.1.kept hg hb hk) hg
theorem o0g {w : World} {T : TypeId} {g : Nat} {a b c d e f : Value} (h : Blk w T g [a, b, c, d, e, f]) (x y z u v q : Value) : Blk ((((((w.setCell ⟨g, 0, none⟩ x).setCell ⟨g, 1, none⟩ y).setCell ⟨g, 2, none⟩ z).setCell ⟨g, 3, none⟩ u).setCell ⟨g, 4, none⟩ v).setCell ⟨g, 5, none⟩ q) T g [x, y, z, u, v, q] := by
 simpa using (((((h.set 0 x).set 1 y).set 2 z).set 3 u).set 4 v).set 5 q
theorem b1i {w : World} {T : TypeId} {r g : Nat} {cs : List Value} (h : Blk w T r cs) (hne : r ≠ g) (x y z u v q : Value) : Blk ((((((w.setCell ⟨g, 0, none⟩ x).setCell ⟨g, 1, none⟩ y).setCell ⟨g, 2, none⟩ z).setCell ⟨g, 3, none⟩ u).setCell ⟨g, 4, none⟩ v).setCell ⟨g, 5, none⟩ q) T r cs :=
 (((((h.other (p := ⟨g, 0, none⟩) hne x).other (p := ⟨g, 1, none⟩) hne y).other (p := ⟨g, 2, none⟩) hne z).other (p := ⟨g, 3, none⟩) hne u).other (p := ⟨g, 4, none⟩) hne v).other (p := ⟨g, 5, none⟩) hne q
theorem g0i {w w' : World} {row : Option Nat} {g : Nat} (h : w.grownBy w' row) (hg : w.heap.size ≤ g) (j : Nat) (u : Value) : w.grownBy (w'.setCell ⟨g, j, none⟩ u) row :=
 ⟨h.os, h.tape, h.output, by simpa using h.size, fun k hk hne => (Below.heap_setCell _ _ _ k (by simp; omega)).trans (h.block k hk hne)⟩
theorem q0u {w w' : World} {row : Option Nat} {g : Nat} (h : w.grownBy w' row) (hg : w.heap.size ≤ g) (x y z u v q : Value) : w.grownBy ((((((w'.setCell ⟨g, 0, none⟩ x).setCell ⟨g, 1, none⟩ y).setCell ⟨g, 2, none⟩ z).setCell ⟨g, 3, none⟩ u).setCell ⟨g, 4, none⟩ v).setCell ⟨g, 5, none⟩ q) row :=
 g0i (g0i (g0i (g0i (g0i (g0i h hg 0 x) hg 1 y) hg 2 z) hg 3 u) hg 4 v) hg 5 q
def s0g (k c r : Int) (a v : Nat) : Value := .agg #[.int .i64 k, .int .i64 c, .int .i64 r, .int .u64 a, .int .u64 v, .slice none 0 0]
theorem i0p {r n : Nat} {p : Option Addr} {c : Nat} {tk : List Tk} {x : Nat} {s : RS} {m : Nat} (w : World) (kd co rg : Int) (ad va : Nat) (h : CAt w r n p c tk x s m) :
  Calls Tryz.prog 191 #[.pointer (some ⟨x, 0, none⟩), s0g kd co rg ad va] w fun e w' => e = .returned (s0g kd co rg ad (d0v tk s).1) ∧ CAt w' r n p c tk x (d0v tk s).2 m ∧ w.grownBy w' (some r) := by
 have HV := h_ (show d0v tk s = a0c tk (d0z tk s 3 ⟨#[61]⟩) from rfl)
 have HB := h_ (show Below w.heap.size w ((w.alloc (.cells #[.int .i64 kd, .int .i64 co, .int .i64 rg, .int .u64 ad, .int .u64 va, .slice none 0 0] 29)).alloc (.cells #[.int .i64 0, .int .i64 0, .int .i64 0, .int .u64 0, .int .u64 0, .slice none 0 0] 29)) from bl_ (bl_ (Below.refl _ _) _) _)
 have HN1 := h_ (show Blk ((w.alloc (.cells #[.int .i64 kd, .int .i64 co, .int .i64 rg, .int .u64 ad, .int .u64 va, .slice none 0 0] 29)).alloc (.cells #[.int .i64 0, .int .i64 0, .int .i64 0, .int .u64 0, .int .u64 0, .slice none 0 0] 29)) 29 w.heap.size [.int .i64 kd, .int .i64 co, .int .i64 rg, .int .u64 ad, .int .u64 va, .slice none 0 0] from (Blk.new w _ _).alloc _)
 have HN2 := h_ (show Blk ((w.alloc (.cells #[.int .i64 kd, .int .i64 co, .int .i64 rg, .int .u64 ad, .int .u64 va, .slice none 0 0] 29)).alloc (.cells #[.int .i64 0, .int .i64 0, .int .i64 0, .int .u64 0, .int .u64 0, .slice none 0 0] 29)) 29 (w.heap.size + 1) [.int .i64 0, .int .i64 0, .int .i64 0, .int .u64 0, .int .u64 0, .slice none 0 0] from by simpa using Blk.new (w.alloc (.cells #[.int .i64 kd, .int .i64 co, .int .i64 rg, .int .u64 ad, .int .u64 va, .slice none 0 0] 29)) 29 [.int .i64 0, .int .i64 0, .int .i64 0, .int .u64 0, .int .u64 0, .slice none 0 0])
 have hC := h.below HB.out
 have HC := h_ hC
 have c0 := hC.1.cell 0
 simp only [gz_, gs_] at c0
 have hx := h.lt
 have hrl := h.2.1.lt
 have H0 := h_ h
 have HM := h_ (j0n _ 3 ⟨#[61]⟩ hC.2.1)
 clear h hC
 unfold s0g
 go_enter Tryz.func191, Tryz.ntmps191
 go_wp2_with fail
 refine (HM.out).mono ?_
 rintro e w2 ⟨rfl, hr, hg⟩
 have HC2 := h_ (HC.out.rd hr hg)
 have hz2 : w.heap.size + 2 ≤ w2.heap.size := by have := hg.size; simpa using this
 have HN12 := h_ (HN1.out.kept hg (by intro e; injection e; omega))
 have HN22 := h_ (HN2.out.kept hg (by intro e; injection e; omega))
 have HG2 := h_ (a0a (a0b (row := some r) HB.out) hg)
 clear hr hg HM HC HN1 HN2 HB c0
 have c0 := HC2.out.1.cell 0
 simp only [gz_, gs_] at c0
 have HM := h_ (g0f _ HC2.out.2.1)
 rw [← HV.out] at HM
 generalize d0v tk s = vr at *
 have hx2 : x < w2.heap.size := by omega
 have hw2 : w.heap.size < w2.heap.size := by omega
 go_wp2_with fail
 refine (HM.out).mono ?_
 rintro e w3 ⟨rfl, hr, hg⟩
 have HC3 := h_ (HC2.out.rd hr hg)
 have hz3 : w.heap.size + 2 ≤ w3.heap.size := by have := hg.size; omega
 have HN13 := h_ (HN12.out.kept hg (by intro e; injection e; omega))
 have HN23 := h_ (HN22.out.kept hg (by intro e; injection e; omega))
 have HG3 := h_ (a0a HG2.out hg)
 clear hr hg HM HC2 HN12 HN22 HG2 c0
 have n0 := HN13.out.cell 0
 have n1 := HN13.out.cell 1
 have n2 := HN13.out.cell 2
 have n3 := HN13.out.cell 3
 have n4 := HN13.out.cell 4
 have n5 := HN13.out.cell 5
 have nf4 := HN13.out.free 4
 simp only [gz_, gs_] at n0 n1 n2 n3 n4 n5
 have q0 := HN23.out.cell 0
 have q1 := HN23.out.cell 1
 have q2 := HN23.out.cell 2
 have q3 := HN23.out.cell 3
 have q4 := HN23.out.cell 4
 have q5 := HN23.out.cell 5
 have qf0 := HN23.out.free 0
 have qf1 := HN23.out.free 1
 have qf2 := HN23.out.free 2
 have qf3 := HN23.out.free 3
 have qf4 := HN23.out.free 4
 have qf5 := HN23.out.free 5
 simp only [gz_, gs_] at q0 q1 q2 q3 q4 q5
 have hw3 : w.heap.size < w3.heap.size := by omega
 have hw3' : w.heap.size + 1 < w3.heap.size := by omega
 go_wp2_with fail
 refine bodyPost_ret (results_cell_row rfl _ _ (w.heap.size + 1) 29 #[.int .i64 kd, .int .i64 co, .int .i64 rg, .int .u64 ad, .int .u64 vr.1, .slice none 0 0] (0, 0) _ rfl (o0g (HN23.out.other (p := ⟨w.heap.size, 4, none⟩) (by simp) _) _ _ _ _ _ _) Tryz.underlying29 rfl (by kernel_rfl)) rfl ?_
 have hgf := q0u (g0i HG3.out (Nat.le_refl _) 4 (.int .u64 vr.1)) (show w.heap.size ≤ w.heap.size + 1 by omega) (.int .i64 kd) (.int .i64 co) (.int .i64 rg) (.int .u64 ad) (.int .u64 vr.1) (.slice none 0 0)
 refine ⟨?_, ?_, hgf⟩
 ·rw [HV.out]; rfl
 ·rw [show d0v tk s = vr from HV.out.symm]
  exact H0.out.kept hgf (b1i (HC3.out.2.1.blk.other (p := ⟨w.heap.size, 4, none⟩) (by simp; omega) _) (by omega) _ _ _ _ _ _) HC3.out.2.1.2.2.2.2.1
end
section
open Go.RowKit
abbrev f0p (k c r : Int) (a v : Int) (sl : Value) : List Value := [.int .i64 k, .int .i64 c, .int .i64 r, .int .u64 a, .int .u64 v, sl]
theorem CT.At.cells {w : World} {S : Nat → Prop} {t : CT} {cs : List Value} (h : CT.At w S t cs) : ∃ (k c r : Int) (a v : Int) (p : Option Addr) (l cap : Nat), cs = f0p k c r a v (.slice p l cap) := by
 obtain ⟨k, c, r, a, v, args⟩ := t
 unfold CT.At at h
 obtain ⟨p, cap, h1, _⟩ := h
 exact ⟨k, c, r, a, v, p, _, cap, h1⟩
theorem j0u (w : World) (S : Nat → Prop) (k c r : Int) (a v : Nat) (ha : a < 18446744073709551616) (hv : v < 18446744073709551616 ∧ I64 k ∧ I64 c ∧ I64 r) : CT.At w S (.mk k c r a v []) (f0p k c r a v (.slice none 0 0)) := by
 unfold CT.At
 exact ⟨none, 0, rfl, Nat.le_refl _, by decide, ha, hv, by unfold CT.Row; trivial⟩
theorem row_one {w : World} {S : Nat → Prop} {t : CT} {es : List Value} {g off i : Nat} (hs : S g) (hl : es.length = 6) (hc : ∀ j, j < 6 → w.cell? ⟨g, off + i * 6 + j, none⟩ = es[j]?) (h : CT.At w S t es) {ts : List CT} (hr : CT.Row w S (some ⟨g, off, none⟩) (i + 1) ts) : CT.Row w S (some ⟨g, off, none⟩) i (t :: ts) := by
 unfold CT.Row
 exact ⟨⟨g, off, es, rfl, hs, hl, hc, h⟩, hr⟩
theorem c1x (w : World) (S : Nat → Prop) (p : Option Addr) (i : Nat) : CT.Row w S p i [] := by unfold CT.Row; trivial
theorem at_one {w : World} {S : Nat → Prop} {t : CT} {es : List Value} {g : Nat} (k : Int) (hk : I64 k) (hs : S g) (hl : es.length = 6) (hb : Blk w 29 g es) (h : CT.At w S t es) : CT.At w S (.mk k 0 0 0 0 [t]) (f0p k 0 0 0 0 (.slice (some ⟨g, 0, none⟩) 1 1)) := by
 unfold CT.At
 refine ⟨some ⟨g, 0, none⟩, 1, rfl, Nat.le_refl _, by decide, by decide, ⟨by decide, hk, by decide, by decide⟩, row_one hs hl (fun j hj => ?_) h (c1x _ _ _ _)⟩
 rw [hb.cell]; simp
theorem at_two {w : World} {S : Nat → Prop} {t u : CT} {es fs : List Value} {g : Nat} (k : Int) (hk : I64 k) (hs : S g) (hl : es.length = 6) (hl2 : fs.length = 6) (hb : Blk w 29 g (es ++ fs)) (h : CT.At w S t es) (h2 : CT.At w S u fs) : CT.At w S (.mk k 0 0 0 0 [t, u]) (f0p k 0 0 0 0 (.slice (some ⟨g, 0, none⟩) 2 2)) := by
 unfold CT.At
 refine ⟨some ⟨g, 0, none⟩, 2, rfl, Nat.le_refl _, by decide, by decide, ⟨by decide, hk, by decide, by decide⟩, row_one hs hl (fun j hj => ?_) h (row_one hs hl2 (fun j hj => ?_) h2 (c1x _ _ _ _))⟩
 ·rw [hb.cell, List.getElem?_append_left (by omega)]; simp
 ·rw [hb.cell, List.getElem?_append_right (by omega)]; congr 1; omega
theorem c0x (tk : List Tk) (s : RS) : (a0c tk s).1 < 18446744073709551616 := by
 unfold a0c
 split
 ·exact t0o _
 ·show (0 : Nat) < _; decide
theorem i0q (tk : List Tk) (s : RS) : (d0v tk s).1 < 18446744073709551616 := c0x tk _
def POK (tk : List Tk) (f : Nat) (id : FuncId) (F : PF) (b : Nat) : Prop :=
 ∀ (w : World) (r n : Nat) (p : Option Addr) (c x : Nat) (s : RS) (m : Nat), CAt w r n p c tk x s m → Few 65 s m → 4 * (n - s.k) + b ≤ f →
  Calls Tryz.prog id #[.pointer (some ⟨x, 0, none⟩)] w fun e w' => ∃ cs, e = .returned (.agg cs.toArray) ∧ CT.At w' (fun g => w.heap.size ≤ g) (a0e tk f F s m).1 cs ∧ CAt w' r n p c tk x (a0e tk f F s m).2.1 (a0e tk f F s m).2.2 ∧ G2 r x w w'
structure St (w w' : World) (r n : Nat) (p : Option Addr) (c : Nat) (tk : List Tk) (x : Nat) (s : RS) (m : Nat) : Prop where
 c : CAt w' r n p c tk x s m
 z : Blk w' 29 w.heap.size (f0p 0 0 0 0 0 (.slice none 0 0))
 g : G2 r x w w'
 hr : r < w.heap.size
 hx : x < w.heap.size
 pb : n = 0 ∨ ∀ a, p = some a → a.block < w.heap.size
section
variable {w w' w'' : World} {r n : Nat} {p : Option Addr} {c : Nat} {tk : List Tk} {x : Nat} {s s' : RS} {m m' : Nat}
theorem St.start (h : CAt w r n p c tk x s m) : St w (w.alloc (.cells #[.int .i64 0, .int .i64 0, .int .i64 0, .int .u64 0, .int .u64 0, .slice none 0 0] 29)) r n p c tk x s m :=
 ⟨h.below (bl_ (Below.refl _ _) _), Blk.new _ _ _, G2.ofBelow (bl_ (Below.refl _ _) _), h.2.1.lt, h.lt, by
  by_cases hn : n = 0
  ·exact .inl hn
  ·right
   intro a ha
   obtain ⟨g, off, hp, hc⟩ := h.2.1.2.1.2 (by omega)
   have h0 := hc 0 (by omega)
   have hl := h.2.1.2.1.1
   rw [List.getElem?_eq_getElem (by omega)] at h0
   rw [ha] at hp
   injection hp with hp
   rw [hp]
   exact World.block_lt_of_cell? w _ h0⟩
theorem St.below (h : St w w' r n p c tk x s m) (hb : Below w'.heap.size w' w'') : St w w'' r n p c tk x s m :=
 ⟨h.c.below hb, h.z.below hb, h.g.trans (G2.ofBelow hb), h.hr, h.hx, h.pb⟩
theorem St.rd (h : St w w' r n p c tk x s m) (hr : a0y w'' r n p c tk s') (hg : w'.grownBy w'' (some r)) : St w w'' r n p c tk x s' m :=
 ⟨h.c.rd hr hg, h.z.g2 (G2.ofR (x := x) hg) (by have := h.hr; omega) (by have := h.hx; omega), h.g.trans (G2.ofR hg), h.hr, h.hx, h.pb⟩
theorem St.cat (h : St w w' r n p c tk x s m) (hc : CAt w'' r n p c tk x s' m') (hg : G2 r x w' w'') : St w w'' r n p c tk x s' m' :=
 ⟨hc, h.z.g2 hg (by have := h.hr; omega) (by have := h.hx; omega), h.g.trans hg, h.hr, h.hx, h.pb⟩
theorem St.alloc (h : St w w' r n p c tk x s m) (o : Obj) : St w (w'.alloc o) r n p c tk x s m := h.below (bl_ (Below.refl _ _) o)
theorem St.set (h : St w w' r n p c tk x s m) {b : Nat} (hb : w.heap.size < b) (j : Nat) (v : Value) : St w (w'.setCell ⟨b, j, none⟩ v) r n p c tk x s m := by
 have h1 := h.hr
 have h2 := h.hx
 have hG : G2 r x w (w'.setCell ⟨b, j, none⟩ v) := ⟨h.g.os, h.g.tape, h.g.output, by simpa using h.g.size, fun i hi e1 e2 => (Below.heap_setCell _ _ _ i (by simp; omega)).trans (h.g.block i hi e1 e2)⟩
 refine ⟨⟨h.c.1.other (by simp; omega) v, ?_, h.c.2.2⟩, h.z.other (by simp; omega) v, hG, h1, h2, h.pb⟩
 refine ⟨h.c.2.1.1.other (by simp; omega) v, ?_, h.c.2.1.2.2⟩
 refine ⟨h.c.2.1.2.1.1, fun hn => ?_⟩
 obtain ⟨g, off, hp, hc⟩ := h.c.2.1.2.1.2 hn
 refine ⟨g, off, hp, fun j' hj' => ?_⟩
 have hne : g ≠ b := by
  rcases h.pb with h0 | h0
  ·omega
  ·have := h0 _ hp; simp at this; omega
 have h3 := hc j' hj'
 rw [World.cell?_setCell_far _ _ _ _ (by simp; omega)]
 exact h3
theorem St.c0 (h : St w w' r n p c tk x s m) : w'.cell? ⟨x, 0, none⟩ = some (.pointer (some ⟨r, 0, none⟩)) := h.c.1.cell 0
theorem St.lt (h : St w w' r n p c tk x s m) : w.heap.size < w'.heap.size := h.z.lt
theorem St.xlt (h : St w w' r n p c tk x s m) : x < w'.heap.size := h.c.lt
end
structure Far (g : Nat) (w W : World) : Prop where
 os : W.os = w.os
 tape : W.tape = w.tape
 output : W.output = w.output
 size : W.heap.size = w.heap.size
 block : ∀ i, i ≠ g → W.heap[i]? = w.heap[i]?
theorem Far.refl (g : Nat) (w : World) : Far g w w := ⟨rfl, rfl, rfl, rfl, fun _ _ => rfl⟩
theorem Far.set {g : Nat} {w W : World} (h : Far g w W) (j : Nat) (v : Value) : Far g w (W.setCell ⟨g, j, none⟩ v) :=
 ⟨h.os, h.tape, h.output, by simpa using h.size, fun i hi => (Below.heap_setCell _ _ _ i hi).trans (h.block i hi)⟩
theorem St.far {w w' W : World} {r n : Nat} {p : Option Addr} {c : Nat} {tk : List Tk} {x : Nat} {s : RS} {m : Nat} {t : CT} {cs : List Value}
  (h : St w w' r n p c tk x s m) (ht : CT.At w' (fun g => w.heap.size < g) t cs) (hf : Far w.heap.size w' W) :
  CT.At W (fun g => w.heap.size ≤ g) t cs ∧ CAt W r n p c tk x s m ∧ G2 r x w W := by
 have hr := h.hr
 have hx := h.hx
 have hG : G2 r x w W := ⟨hf.os.trans h.g.os, hf.tape.trans h.g.tape, hf.output.trans h.g.output, by have := h.g.size; have := hf.size; omega, fun i hi e1 e2 => (hf.block i (by omega)).trans (h.g.block i hi e1 e2)⟩
 refine ⟨?_, ?_, hG⟩
 ·refine CT.At.sub (S := fun g => w.heap.size < g) (fun g hg _ => Nat.le_of_lt hg) _ _ (CT.At.keep (fun a v hB hc => ?_) _ _ ht)
  exact (World.cell?_of_block (hf.block a.block (by omega))).trans hc
 ·refine ⟨(hf.block x (by omega)).trans h.c.1, ⟨(hf.block r (by omega)).trans h.c.2.1.1, ⟨h.c.2.1.2.1.1, fun hn => ?_⟩, h.c.2.1.2.2⟩, h.c.2.2⟩
  obtain ⟨g, off, hp, hc⟩ := h.c.2.1.2.1.2 hn
  refine ⟨g, off, hp, fun j' hj' => ?_⟩
  have hne : g ≠ w.heap.size := by
   rcases h.pb with h0 | h0
   ·omega
   ·have := h0 _ hp; simp at this; omega
  exact (World.cell?_of_block (hf.block g hne)).trans (hc j' hj')
theorem St.done {w w' : World} {r n : Nat} {p : Option Addr} {c : Nat} {tk : List Tk} {x : Nat} {s : RS} {m : Nat} {Q : Ending → World → Prop} {fn : Func} {a : Act} {k co rg ad va : Int} {sl : Value} {t : CT} {Y : CT × RS × Nat}
  (h : St w w' r n p c tk x s m) (ht : CT.At w' (fun g => w.heap.size < g) t (f0p k co rg ad va sl)) (hY : Y = (t, s, m))
  (hQ : ∀ e W, (∃ cs : List Value, e = .returned (.agg cs.toArray) ∧ CT.At W (fun g => w.heap.size ≤ g) Y.1 cs ∧ CAt W r n p c tk x Y.2.1 Y.2.2 ∧ G2 r x w W) → Q e W)
  (hv : ∀ W : World, Blk W 29 w.heap.size (f0p k co rg ad va sl) → (results fn a.tmps).run Tryz.prog W = .ok (.agg #[.int .i64 k, .int .i64 co, .int .i64 rg, .int .u64 ad, .int .u64 va, sl]) W) (hd : a.defers = []) :
  bodyPost Tryz.prog fn Q .ret a ((((((w'.setCell ⟨w.heap.size, 0, none⟩ (.int .i64 k)).setCell ⟨w.heap.size, 1, none⟩ (.int .i64 co)).setCell ⟨w.heap.size, 2, none⟩ (.int .i64 rg)).setCell ⟨w.heap.size, 3, none⟩ (.int .u64 ad)).setCell ⟨w.heap.size, 4, none⟩ (.int .u64 va)).setCell ⟨w.heap.size, 5, none⟩ sl) := by
 subst hY
 have hB := o0g h.z (.int .i64 k) (.int .i64 co) (.int .i64 rg) (.int .u64 ad) (.int .u64 va) sl
 have hF := ((((((Far.refl w.heap.size w').set 0 (.int .i64 k)).set 1 (.int .i64 co)).set 2 (.int .i64 rg)).set 3 (.int .u64 ad)).set 4 (.int .u64 va)).set 5 sl
 generalize ((((((w'.setCell ⟨w.heap.size, 0, none⟩ (.int .i64 k)).setCell ⟨w.heap.size, 1, none⟩ (.int .i64 co)).setCell ⟨w.heap.size, 2, none⟩ (.int .i64 rg)).setCell ⟨w.heap.size, 3, none⟩ (.int .u64 ad)).setCell ⟨w.heap.size, 4, none⟩ (.int .u64 va)).setCell ⟨w.heap.size, 5, none⟩ sl) = W at *
 exact bodyPost_ret (hv _ hB) hd (hQ _ _ ⟨f0p k co rg ad va sl, rfl, h.far ht hF⟩)
theorem y0v (a : Int) (b : ByteArray) (c : Int) (w : World) : (Instr.field 147 (.agg #[.int .i64 a, .string b, .int .i64 c]) 1).run Tryz.prog w = .ok (.string b) w := by kernel_rfl
theorem j0q {tk : List Tk} {s : RS} {t : ByteArray} {kd : Int} (h : isR tk s kd t = true) (hk : kd ≠ 4) : (a0v tk s).k = s.k + 1 := by
 unfold isR at h
 simp at h
 unfold a0v
 rw [if_neg (by rw [h.1]; exact hk)]
 rfl
theorem St.room {w w' : World} {r n : Nat} {p : Option Addr} {c : Nat} {tk : List Tk} {x : Nat} {s : RS} {m : Nat} (h : St w w' r n p c tk x s m) : s.k ≤ n := h.c.2.1.2.2.2.2.1
end
end Go.Proofs.YtmnojnopejhebaaGreat
