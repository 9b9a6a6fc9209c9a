/- Conditions as they lie in memory. -/
import Derived.Test.YtmnojnopejhebaaGreatMgaa
import Derived.Test.YtmnojnopejhebaaGreatMgab
import Derived.Test.YtmnojnopejhebaaGreatMgac
import Derived.StillTailTactics
import Derived.OpenShut
import Derived.ShutString
namespace Go.Proofs.YtmnojnopejhebaaGreat
set_option linter.unusedVariables false
set_option linter.unusedSimpArgs false
set_option maxRecDepth 100000
set_option maxHeartbeats 25600000
section
open Go.RowKit
abbrev Tk := Int × ByteArray × Int
def tkV (t : Tk) : Value := .agg #[.int .i64 t.1, .string t.2.1, .int .i64 t.2.2]
def tkL (l : List Tk) : List Value := l.flatMap fun t => [.int .i64 t.1, .string t.2.1, .int .i64 t.2.2]
theorem c1g : ∀ (l : List Tk) (i : Nat) (h : i < l.length), (tkL l)[i * 3]? = some (.int .i64 l[i].1) ∧ (tkL l)[i * 3 + 1]? = some (.string l[i].2.1) ∧ (tkL l)[i * 3 + 2]? = some (.int .i64 l[i].2.2)
 | [], i, h => by simp at h
 | t :: l, 0, h => by simp [tkL]
 | t :: l, i + 1, h => by
  have := c1g l i (by simpa using h)
  have e : tkL (t :: l) = [.int .i64 t.1, .string t.2.1, .int .i64 t.2.2] ++ tkL l := by simp [tkL]
  rw [e, show (i + 1) * 3 = i * 3 + 3 by omega]
  simpa using this
structure RS where
 k : Nat
 code : Int
 at_ : Int
def a0p (tk : List Tk) (s : RS) : Tk := tk.getD s.k (4, ByteArray.empty, 0)
def onR (s : RS) : RS := { s with k := s.k + 1 }
def a0v (tk : List Tk) (s : RS) : RS := if (a0p tk s).1 = 4 then s else onR s
def e0e (tk : List Tk) (s : RS) (e : Int) : RS := if s.code = 0 then { s with code := e, at_ := (a0p tk s).2.2 } else s
def isR (tk : List Tk) (s : RS) (kind : Int) (text : ByteArray) : Bool := decide ((a0p tk s).1 = kind) && decide ((a0p tk s).2.1 = text)
def a0y (w : World) (r n : Nat) (p : Option Addr) (c : Nat) (tk : List Tk) (s : RS) : Prop :=
 Blk w 172 r [.slice p n c, .int .i64 (s.k : Nat), .int .i64 s.code, .int .i64 s.at_] ∧ Rds w 3 p n (tkL tk) ∧ tk.length = n ∧ (∀ a, p = some a → a.block ≠ r) ∧ s.k ≤ n ∧ n ≤ 1048577 ∧ ∀ t ∈ tk, t.2.1.size ≤ 1048576
section
variable {w w' : World} {r n : Nat} {p : Option Addr} {c : Nat} {tk : List Tk} {s : RS}
theorem a0y.below (h : a0y w r n p c tk s) (hb : Below w.heap.size w w') : a0y w' r n p c tk s := ⟨h.1.below hb, h.2.1.below hb, h.2.2⟩
theorem a0y.dn (h : a0y w r n p c tk s) (k : Nat) : a0y (w.drewN k) r n p c tk s := h
theorem a0y.lt (h : a0y w r n p c tk s) : r < w.heap.size := h.1.lt
theorem a0y.peek_in (h : a0y w r n p c tk s) (hk : s.k < n) : ∃ g off, p = some ⟨g, off, none⟩ ∧ g ≠ r ∧ w.cell? ⟨g, off + s.k * 3, none⟩ = some (.int .i64 (a0p tk s).1) ∧ w.cell? ⟨g, off + s.k * 3 + 1, none⟩ = some (.string (a0p tk s).2.1) ∧ w.cell? ⟨g, off + s.k * 3 + 2, none⟩ = some (.int .i64 (a0p tk s).2.2) := by
 obtain ⟨_, ⟨_, hr⟩, hl, hne, _⟩ := h
 obtain ⟨g, off, hp, hc⟩ := hr (by omega)
 have hk' : s.k < tk.length := by omega
 have hpk : a0p tk s = tk[s.k] := by unfold a0p; simp [List.getD_eq_getElem?_getD, hk']
 obtain ⟨h0, h1, h2⟩ := c1g tk s.k hk'
 rw [hpk]
 refine ⟨g, off, hp, hne _ hp, (hc _ (by omega)).trans h0, ?_, ?_⟩
 ·exact (hc (s.k * 3 + 1) (by omega)).trans h1
 ·exact (hc (s.k * 3 + 2) (by omega)).trans h2
theorem r0u (hk : ¬ s.k < tk.length) : a0p tk s = (4, ByteArray.empty, 0) := by
 unfold a0p; rw [List.getD_eq_getElem?_getD, List.getElem?_eq_none (by omega)]; rfl
end
theorem m0n (a : Int) (b : ByteArray) (c : Int) (w : World) : (Instr.field 147 (.agg #[.int .i64 a, .string b, .int .i64 c]) 0).run Tryz.prog w = .ok (.int .i64 a) w := by kernel_rfl
theorem y0u (a : Int) (b : ByteArray) (c : Int) (w : World) : (Instr.field 147 (.agg #[.int .i64 a, .string b, .int .i64 c]) 2).run Tryz.prog w = .ok (.int .i64 c) w := by kernel_rfl
theorem o0h {w : World} {T : TypeId} {g : Nat} {a b c : Value} (h : Blk w T g [a, b, c]) (x y z : Value) : Blk (((w.setCell ⟨g, 0, none⟩ x).setCell ⟨g, 1, none⟩ y).setCell ⟨g, 2, none⟩ z) T g [x, y, z] := by
 simpa using ((h.set 0 x).set 1 y).set 2 z
theorem r0j {w : World} {T : TypeId} {r g : Nat} {cs : List Value} (h : Blk w T r cs) (hne : r ≠ g) (x y z : Value) : Blk (((w.setCell ⟨g, 0, none⟩ x).setCell ⟨g, 1, none⟩ y).setCell ⟨g, 2, none⟩ z) T r cs :=
 ((h.other (p := ⟨g, 0, none⟩) hne x).other (p := ⟨g, 1, none⟩) hne y).other (p := ⟨g, 2, none⟩) hne z
theorem r0k {w w' : World} {B g : Nat} (h : Below B w w') (hg : B ≤ g) (x y z : Value) : Below B w (((w'.setCell ⟨g, 0, none⟩ x).setCell ⟨g, 1, none⟩ y).setCell ⟨g, 2, none⟩ z) := ((h.setCell (by simpa using hg) _).setCell (by simpa using hg) _).setCell (by simpa using hg) _
theorem k0v {w w' : World} {row : Option Nat} {g : Nat} (h : w.grownBy w' row) (hg : w.heap.size ≤ g) (x y z : Value) : w.grownBy (((w'.setCell ⟨g, 0, none⟩ x).setCell ⟨g, 1, none⟩ y).setCell ⟨g, 2, none⟩ z) row := by
 have h1 : ∀ {v : World} (j : Nat) (u : Value), w.grownBy v row → w.grownBy (v.setCell ⟨g, j, none⟩ u) row := fun j u h =>
  ⟨h.os, h.tape, h.output, by simpa using h.size, fun k hk hne => (Below.heap_setCell _ _ _ k (by simp; omega)).trans (h.block k hk hne)⟩
 exact h1 2 z (h1 1 y (h1 0 x h))
theorem d0t {r n : Nat} {p : Option Addr} {c : Nat} {tk : List Tk} {s : RS} (w : World) (h : a0y w r n p c tk s) :
  Calls Tryz.prog 127 #[.pointer (some ⟨r, 0, none⟩)] w fun e w' => e = .returned (tkV (a0p tk s)) ∧ Below w.heap.size w w' := by
 have HR := h_ h
 have HN := h_ (show Blk (w.alloc (.cells #[.int .i64 0, .string ⟨#[]⟩, .int .i64 0] 147)) 147 w.heap.size [.int .i64 0, .string ⟨#[]⟩, .int .i64 0] from Blk.new _ _ _)
 have HB := h_ (show Below w.heap.size w (w.alloc (.cells #[.int .i64 0, .string ⟨#[]⟩, .int .i64 0] 147)) from bl_ (Below.refl _ _) _)
 have hr := h.below HB.out
 have HR1 := h_ hr
 have c0 : (w.alloc (.cells #[.int .i64 0, .string ⟨#[]⟩, .int .i64 0] 147)).cell? ⟨r, 0, none⟩ = some (.slice p n c) := hr.1.cell 0
 have c1 : (w.alloc (.cells #[.int .i64 0, .string ⟨#[]⟩, .int .i64 0] 147)).cell? ⟨r, 1, none⟩ = some (.int .i64 (s.k : Nat)) := hr.1.cell 1
 have hk0 : (0 : Int) ≤ s.k := by omega
 by_cases hk : s.k < n
 ·obtain ⟨g, off, hp, hgr, t0, t1, t2⟩ := hr.peek_in hk
  subst hp
  have hki : (s.k : Int) < n := by omega
  clear h hr
  generalize a0p tk s = t at *
  obtain ⟨k1, k2, k3⟩ := t
  simp only at t0 t1 t2
  go_enter Tryz.func127, Tryz.ntmps127
  go_wp2_with fail
  go_quiet (fail)
  go_wp2_with fail
  refine g0e 10 (by kernel_rfl) (by kernel_rfl) ?_
  simp only [List.take_succ_cons, List.take_zero, List.drop_succ_cons, List.drop_zero]
  repeat still_step
  refine wpStill_nil ?_
  go_wp2_with fail
  exact bodyPost_ret (results_cell_row rfl _ _ w.heap.size 147 #[.int .i64 k1, .string k2, .int .i64 k3] (0, 0) _ rfl (o0h (HN.out.dn _) _ _ _) Tryz.underlying147 rfl (by kernel_rfl)) rfl ⟨rfl, r0k (bd_ HB.out _) (Nat.le_refl _) _ _ _⟩
 ·have hki : ¬ (s.k : Int) < n := by omega
  have HPO := h_ (r0u (tk := tk) (s := s) (by have := h.2.2.1; omega))
  clear h hr
  go_enter Tryz.func127, Tryz.ntmps127
  go_wp2_with fail
  go_quiet (fail)
  go_wp2_with fail
  refine bodyPost_ret (results_cell_row rfl _ _ w.heap.size 147 #[.int .i64 4, .string ⟨#[]⟩, .int .i64 0] (0, 0) _ rfl (o0h (HN.out.dn _) _ _ _) Tryz.underlying147 rfl (by kernel_rfl)) rfl ⟨?_, r0k (bd_ HB.out _) (Nat.le_refl _) _ _ _⟩
  rw [HPO.out]; rfl
theorem a0y.kept {w w' : World} {r n : Nat} {p : Option Addr} {c : Nat} {tk : List Tk} {s s' : RS} (h : a0y w r n p c tk s) (hg : w.grownBy w' (some r)) (hb : Blk w' 172 r [.slice p n c, .int .i64 (s'.k : Nat), .int .i64 s'.code, .int .i64 s'.at_]) (hk : s'.k ≤ n) : a0y w' r n p c tk s' :=
 ⟨hb, h.2.1.grownR hg (fun a ha e => h.2.2.2.1 a ha (by injection e)), h.2.2.1, h.2.2.2.1, hk, h.2.2.2.2.2⟩
theorem a0y.peek_size {w : World} {r n : Nat} {p : Option Addr} {c : Nat} {tk : List Tk} {s : RS} (h : a0y w r n p c tk s) : (a0p tk s).2.1.size ≤ 1048576 := by
 by_cases hk : s.k < tk.length
 ·have : a0p tk s = tk[s.k] := by unfold a0p; simp [List.getD_eq_getElem?_getD, hk]
  rw [this]; exact h.2.2.2.2.2.2 _ (List.getElem_mem hk)
 ·rw [r0u hk]; decide
theorem a0y.blk {w : World} {r n : Nat} {p : Option Addr} {c : Nat} {tk : List Tk} {s : RS} (h : a0y w r n p c tk s) : Blk w 172 r [.slice p n c, .int .i64 (s.k : Nat), .int .i64 s.code, .int .i64 s.at_] := h.1
theorem a0y.room {w : World} {r n : Nat} {p : Option Addr} {c : Nat} {tk : List Tk} {s : RS} (h : a0y w r n p c tk s) (hk : ¬ (a0p tk s).1 = 4) : s.k < n := by
 have := h.2.2.1
 apply Classical.byContradiction
 intro hn
 rw [r0u (by omega)] at hk
 exact hk rfl
theorem g0q {r n : Nat} {p : Option Addr} {c : Nat} {tk : List Tk} {s : RS} (w : World) (h : a0y w r n p c tk s) :
  Calls Tryz.prog 91 #[.pointer (some ⟨r, 0, none⟩)] w fun e w' => e = .returned (tkV (a0p tk s)) ∧ a0y w' r n p c tk (a0v tk s) ∧ w.grownBy w' (some r) := by
 have HR := h_ h
 have HN := h_ (show Blk (w.alloc (.cells #[.int .i64 0, .string ⟨#[]⟩, .int .i64 0] 147)) 147 w.heap.size [.int .i64 0, .string ⟨#[]⟩, .int .i64 0] from Blk.new _ _ _)
 have HB := h_ (show Below w.heap.size w (w.alloc (.cells #[.int .i64 0, .string ⟨#[]⟩, .int .i64 0] 147)) from bl_ (Below.refl _ _) _)
 have HP := d0t _ (h.below HB.out)
 have hrl := h.lt
 have HRM := h_ (fun hk => h.room hk)
 have hn6 := h.2.2.2.2.2.1
 have HNX := h_ (show ((a0p tk s).1 = 4 → a0v tk s = s) ∧ (¬ (a0p tk s).1 = 4 → a0v tk s = onR s) from ⟨fun e => by unfold a0v; rw [if_pos e], fun e => by unfold a0v; rw [if_neg e]⟩)
 clear h
 generalize a0p tk s = t at *
 obtain ⟨k1, k2, k3⟩ := t
 simp only [tkV] at HP ⊢
 have HP := h_ HP
 go_enter Tryz.func91, Tryz.ntmps91
 go_wp2_with fail
 refine (HP.out).mono ?_
 rintro e w2 ⟨rfl, hb⟩
 have hz : w.heap.size < w2.heap.size := by have := hb.size; simp at this; omega
 have HN2 := h_ (HN.out.below hb)
 have HB2 := h_ (bt_ HB.out hb)
 have HR2 := h_ (HR.out.below HB2.out)
 have hrz : r < w2.heap.size := by omega
 have r1 := HR2.out.blk.cell 1
 have rf := HR2.out.blk.free 1
 have n0 := HN2.out.cell 0
 have n1 := HN2.out.cell 1
 have n2 := HN2.out.cell 2
 have nf0 := HN2.out.free 0
 have nf1 := HN2.out.free 1
 have nf2 := HN2.out.free 2
 simp only [gz_, gs_] at r1 n0 n1 n2
 clear hb HP HB HN
 by_cases hk : k1 = 4
 ·have HX := h_ (HNX.out.1 hk)
  subst hk
  go_wp2_with fail
  refine bodyPost_ret (results_cell_row rfl _ _ w.heap.size 147 #[.int .i64 4, .string k2, .int .i64 k3] (0, 0) _ rfl ((o0h HN2.out _ _ _).alloc _) Tryz.underlying147 rfl (by kernel_rfl)) rfl ⟨rfl, ?_, ?_⟩
  ·rw [HX.out]
   exact HR.out.kept (a0a (k0v (a0b HB2.out) (Nat.le_refl _) _ _ _) (World.grownBy_alloc _ _ _)) ((r0j HR2.out.blk (by omega) _ _ _).alloc _) HR.out.2.2.2.2.1
  ·exact a0a (k0v (a0b HB2.out) (Nat.le_refl _) _ _ _) (World.grownBy_alloc _ _ _)
 ·have HX := h_ (HNX.out.2 hk)
  have hkl := HRM.out hk
  have hkb : (k1 == 4) = false := by simpa using hk
  have hwr : IntKind.i64.wrap ((s.k : Int) + 1) = ((s.k : Int) + 1) := IntWalk.i64_in _ (by omega)
  have HRS := h_ (show Blk (w2.setCell ⟨r, 1, none⟩ (.int .i64 ((s.k : Int) + 1))) 172 r [.slice p n c, .int .i64 ((onR s).k : Nat), .int .i64 (onR s).code, .int .i64 (onR s).at_] from by simpa [onR] using HR2.out.blk.set 1 (.int .i64 ((s.k : Int) + 1)))
  have HNS := h_ (HN2.out.other (p := ⟨r, 1, none⟩) (by simp; omega) (.int .i64 ((s.k : Int) + 1)))
  have HGS := h_ (a0a (a0b (row := some r) HB2.out) (a0r w2 r 1 (.int .i64 ((s.k : Int) + 1))))
  go_wp2_with fail
  refine bodyPost_ret (results_cell_row rfl _ _ w.heap.size 147 #[.int .i64 k1, .string k2, .int .i64 k3] (0, 0) _ rfl ((o0h HNS.out _ _ _).alloc _) Tryz.underlying147 rfl (by kernel_rfl)) rfl ⟨rfl, ?_, ?_⟩
  ·rw [HX.out]
   exact HR.out.kept (a0a (k0v HGS.out (Nat.le_refl _) _ _ _) (World.grownBy_alloc _ _ _)) ((r0j HRS.out (by omega) _ _ _).alloc _) hkl
  ·exact a0a (k0v HGS.out (Nat.le_refl _) _ _ _) (World.grownBy_alloc _ _ _)
theorem e0j {r n : Nat} {p : Option Addr} {c : Nat} {tk : List Tk} {s : RS} (w : World) (x : Int) (h : a0y w r n p c tk s) :
  Calls Tryz.prog 128 #[.pointer (some ⟨r, 0, none⟩), .int .i64 x] w fun e w' => e = .returned (.tuple #[]) ∧ a0y w' r n p c tk (e0e tk s x) ∧ w.grownBy w' (some r) := by
 have HR := h_ h
 have HP := d0t w h
 have c2 := h.blk.cell 2
 simp only [gz_, gs_] at c2
 have HNX := h_ (show (s.code = 0 → e0e tk s x = { s with code := x, at_ := (a0p tk s).2.2 }) ∧ (¬ s.code = 0 → e0e tk s x = s) from ⟨fun e => by unfold e0e; rw [if_pos e], fun e => by unfold e0e; rw [if_neg e]⟩)
 have hrl := h.lt
 clear h
 generalize a0p tk s = t at *
 obtain ⟨k1, k2, k3⟩ := t
 simp only [tkV] at HP
 have HP := h_ HP
 by_cases hk : s.code = 0
 ·have HX := h_ (HNX.out.1 hk)
  rw [hk] at c2
  clear hk
  go_enter Tryz.func128, Tryz.ntmps128
  go_wp2_with fail
  refine (HP.out).mono ?_
  rintro e w2 ⟨rfl, hb⟩
  have HB2 := h_ hb
  have HR2 := h_ (HR.out.below hb)
  have r2 := HR2.out.blk.cell 2
  have r3 := HR2.out.blk.cell 3
  have rf2 := HR2.out.blk.free 2
  have rf3 := HR2.out.blk.free 3
  simp only [gz_, gs_] at r2 r3
  have HRS := h_ (show Blk ((w2.setCell ⟨r, 2, none⟩ (.int .i64 x)).setCell ⟨r, 3, none⟩ (.int .i64 k3)) 172 r [.slice p n c, .int .i64 (s.k : Nat), .int .i64 x, .int .i64 k3] from by simpa using (HR2.out.blk.set 2 (.int .i64 x)).set 3 (.int .i64 k3))
  have HGS := h_ (a0a (a0a (a0b (row := some r) HB2.out) (a0r w2 r 2 (.int .i64 x))) (a0r _ r 3 (.int .i64 k3)))
  have hf2 := fun w => y0u k1 k2 k3 w
  clear hb HP
  go_wp2_with fail
  go_end0
  exact ⟨rfl, by rw [HX.out]; exact HR.out.kept HGS.out HRS.out HR.out.2.2.2.2.1, HGS.out⟩
 ·have HX := h_ (HNX.out.2 hk)
  have hkb : (s.code == 0) = false := by simpa using hk
  go_enter Tryz.func128, Tryz.ntmps128
  go_wp2_with fail
  refine bodyPost_end (results_none rfl _ _ _) (by rfl) ?_
  exact ⟨rfl, by rw [HX.out]; exact HR.out, a0b (Below.refl _ _)⟩
theorem x0l {r n : Nat} {p : Option Addr} {c : Nat} {tk : List Tk} {s : RS} (w : World) (h : a0y w r n p c tk s) :
  Calls Tryz.prog 100 #[.pointer (some ⟨r, 0, none⟩)] w fun e w' => e = .returned (.agg #[.int .i64 s.code, .int .i64 s.at_]) ∧ Below w.heap.size w w' := by
 have HN := h_ (show Blk (w.alloc (.cells #[.int .i64 0, .int .i64 0] 41)) 41 w.heap.size [.int .i64 0, .int .i64 0] from Blk.new _ _ _)
 have HB := h_ (show Below w.heap.size w (w.alloc (.cells #[.int .i64 0, .int .i64 0] 41)) from bl_ (Below.refl _ _) _)
 have c2 := h.blk.cell 2
 have c3 := h.blk.cell 3
 simp only [gz_, gs_] at c2 c3
 have hrl := h.lt
 clear h
 go_enter Tryz.func100, Tryz.ntmps100
 go_wp2_with fail
 exact bodyPost_ret (results_cell_row rfl _ _ w.heap.size 41 #[.int .i64 s.code, .int .i64 s.at_] (0, 0) _ rfl (heap_alloc_new w _) Tryz.underlying41 rfl (by kernel_rfl)) rfl ⟨rfl, bl_ (Below.refl _ _) _⟩
theorem m0a {r n : Nat} {p : Option Addr} {c : Nat} {tk : List Tk} {s : RS} (w : World) (kind : Int) (text : ByteArray) (h : a0y w r n p c tk s) :
  Calls Tryz.prog 135 #[.pointer (some ⟨r, 0, none⟩), .int .i64 kind, .string text] w fun e w' => e = .returned (.bool (isR tk s kind text)) ∧ a0y w' r n p c tk (if isR tk s kind text then a0v tk s else s) ∧ w.grownBy w' (some r) := by
 have HR := h_ h
 have HP := d0t w h
 have HIS := h_ (show isR tk s kind text = (decide ((a0p tk s).1 = kind) && decide ((a0p tk s).2.1 = text)) from rfl)
 clear h
 generalize isR tk s kind text = b at *
 have HNX := h_ (fun w2 (hb : a0y w2 r n p c tk s) => g0q w2 hb)
 generalize a0p tk s = t at *
 obtain ⟨k1, k2, k3⟩ := t
 simp only [tkV] at HP HNX
 have HP := h_ HP
 by_cases hk : k1 = kind
 ·subst hk
  by_cases ht : k2 = text
  ·subst ht
   obtain rfl : b = true := by rw [HIS.out]; simp
   go_enter Tryz.func135, Tryz.ntmps135
   go_wp2_with fail
   refine (HP.out).mono ?_
   rintro e w2 ⟨rfl, hb⟩
   have HB := h_ (bl_ hb (.cells #[.int .i64 k1, .string k2, .int .i64 k3] 147))
   have HN := h_ (HNX.out _ (HR.out.below HB.out))
   clear hb
   go_wp2_with fail
   refine (HN.out).mono ?_
   rintro e w3 ⟨rfl, hr3, hg3⟩
   have HG := h_ (a0a (a0b HB.out) hg3)
   have HR3 := h_ hr3
   clear hg3 hr3
   go_wp2_with fail
   go_ret
   exact ⟨rfl, HR3.out, HG.out⟩
  ·obtain rfl : b = false := by rw [HIS.out]; simp [ht]
   have htb : (k2.toList == text.toList) = false := l0r ht
   go_enter Tryz.func135, Tryz.ntmps135
   go_wp2_with fail
   refine (HP.out).mono ?_
   rintro e w2 ⟨rfl, hb⟩
   have HB := h_ (bl_ hb (.cells #[.int .i64 k1, .string k2, .int .i64 k3] 147))
   clear hb
   go_wp2_with fail
   go_ret
   exact ⟨rfl, HR.out.below HB.out, a0b HB.out⟩
 ·obtain rfl : b = false := by rw [HIS.out]; simp [hk]
  have hkb : (k1 == kind) = false := by simpa using hk
  go_enter Tryz.func135, Tryz.ntmps135
  go_wp2_with fail
  refine (HP.out).mono ?_
  rintro e w2 ⟨rfl, hb⟩
  have HB := h_ (bl_ hb (.cells #[.int .i64 k1, .string k2, .int .i64 k3] 147))
  clear hb
  go_wp2_with fail
  go_ret
  exact ⟨rfl, HR.out.below HB.out, a0b HB.out⟩
def d0z (tk : List Tk) (s : RS) (kind : Int) (text : ByteArray) : RS := if isR tk s kind text then a0v tk s else e0e tk s 110
theorem j0n {r n : Nat} {p : Option Addr} {c : Nat} {tk : List Tk} {s : RS} (w : World) (kind : Int) (text : ByteArray) (h : a0y w r n p c tk s) :
  Calls Tryz.prog 131 #[.pointer (some ⟨r, 0, none⟩), .int .i64 kind, .string text] w fun e w' => e = .returned (.tuple #[]) ∧ a0y w' r n p c tk (d0z tk s kind text) ∧ w.grownBy w' (some r) := by
 have HI := m0a w kind text h
 have HM := h_ (show d0z tk s kind text = if isR tk s kind text then a0v tk s else e0e tk s 110 from rfl)
 clear h
 generalize isR tk s kind text = b at *
 have HI := h_ HI
 go_enter Tryz.func131, Tryz.ntmps131
 go_wp2_with fail
 refine (HI.out).mono ?_
 rintro e w2 ⟨rfl, hr, hg⟩
 have HG := h_ hg
 have HR := h_ hr
 clear hr hg HI
 cases b
 ·have HF := h_ (e0j w2 110 HR.out)
  go_wp2_with fail
  refine (HF.out).mono ?_
  rintro e w3 ⟨rfl, hr, hg⟩
  have HG3 := h_ (a0a HG.out hg)
  have HR3 := h_ hr
  clear hr hg
  go_wp2_with fail
  go_end0
  exact ⟨rfl, by rw [HM.out]; exact HR3.out, HG3.out⟩
 ·go_wp2_with fail
  go_end0
  exact ⟨rfl, by rw [HM.out]; exact HR.out, HG.out⟩
def endR (tk : List Tk) (s : RS) : RS := if (a0p tk s).1 = 4 then s else e0e tk s 110
theorem f1q {r n : Nat} {p : Option Addr} {c : Nat} {tk : List Tk} {s : RS} (w : World) (h : a0y w r n p c tk s) :
  Calls Tryz.prog 99 #[.pointer (some ⟨r, 0, none⟩)] w fun e w' => e = .returned (.tuple #[]) ∧ a0y w' r n p c tk (endR tk s) ∧ w.grownBy w' (some r) := by
 have HR := h_ h
 have HP := d0t w h
 have HE := h_ (show endR tk s = if (a0p tk s).1 = 4 then s else e0e tk s 110 from rfl)
 clear h
 generalize a0p tk s = t at *
 obtain ⟨k1, k2, k3⟩ := t
 simp only [tkV] at HP
 have HP := h_ HP
 have HX := h_ (show (k1 = 4 → endR tk s = s) ∧ (¬ k1 = 4 → endR tk s = e0e tk s 110) from ⟨fun e => by rw [HE.out, if_pos e], fun e => by rw [HE.out, if_neg e]⟩)
 by_cases hk : k1 = 4
 ·have HXX := h_ (HX.out.1 hk)
  clear HX HE
  subst hk
  have hf0 := fun w => m0n 4 k2 k3 w
  go_enter Tryz.func99, Tryz.ntmps99
  go_wp2_with fail
  refine (HP.out).mono ?_
  rintro e w2 ⟨rfl, hb⟩
  have HB := h_ hb
  clear hb HP
  go_wp2_with fail
  go_end0
  exact ⟨rfl, by rw [HXX.out]; exact HR.out.below HB.out, a0b HB.out⟩
 ·have HX := h_ (HX.out.2 hk)
  have hkb : (k1 == 4) = false := by simpa using hk
  have hf0 := fun w => m0n k1 k2 k3 w
  go_enter Tryz.func99, Tryz.ntmps99
  go_wp2_with fail
  refine (HP.out).mono ?_
  rintro e w2 ⟨rfl, hb⟩
  have HB := h_ hb
  have HF := h_ (e0j w2 110 (HR.out.below hb))
  clear hb HP
  go_wp2_with fail
  refine (HF.out).mono ?_
  rintro e w3 ⟨rfl, hr, hg⟩
  have HG3 := h_ (a0a (a0b HB.out) hg)
  have HR3 := h_ hr
  clear hr hg
  go_wp2_with fail
  go_end0
  exact ⟨rfl, by rw [HX.out]; exact HR3.out, HG3.out⟩
def numT (s : ByteArray) : Nat × Nat := b0h s.data.toList
def a0c (tk : List Tk) (s : RS) : Nat × RS := if (a0p tk s).1 = 2 ∧ (numT (a0p tk s).2.1).2 = 0 then ((numT (a0p tk s).2.1).1, a0v tk s) else (0, e0e tk s 110)
theorem g0f {r n : Nat} {p : Option Addr} {c : Nat} {tk : List Tk} {s : RS} (w : World) (h : a0y w r n p c tk s) :
  Calls Tryz.prog 130 #[.pointer (some ⟨r, 0, none⟩)] w fun e w' => e = .returned (.int .u64 ((a0c tk s).1 : Nat)) ∧ a0y w' r n p c tk (a0c tk s).2 ∧ w.grownBy w' (some r) := by
 have HR := h_ h
 have HP := d0t w h
 have hsz := h.peek_size
 have HNR := h_ (show ((a0p tk s).1 = 2 ∧ (numT (a0p tk s).2.1).2 = 0 → a0c tk s = ((numT (a0p tk s).2.1).1, a0v tk s)) ∧ (¬ ((a0p tk s).1 = 2 ∧ (numT (a0p tk s).2.1).2 = 0) → a0c tk s = (0, e0e tk s 110)) from ⟨fun e => by unfold a0c; rw [if_pos e], fun e => by unfold a0c; rw [if_neg e]⟩)
 have HNX := fun w2 (hb : a0y w2 r n p c tk s) => g0q w2 hb
 clear h
 generalize a0p tk s = t at *
 obtain ⟨k1, k2, k3⟩ := t
 simp only [tkV] at HP HNX hsz
 have HP := h_ HP
 have HNX := h_ HNX
 have HPA := fun w2 => k0i k2 w2 (by unfold maxLen; omega)
 have HNE := h_ (show b0h k2.data.toList = numT k2 from rfl)
 rw [HNE.out] at HPA
 have HPA := h_ HPA
 generalize numT k2 = v at *
 obtain ⟨v1, v2⟩ := v
 simp only at HNR
 by_cases hk : k1 = 2 ∧ v2 = 0
 ·have HXX := h_ (HNR.out.1 hk)
  obtain ⟨rfl, rfl⟩ := hk
  rw [HXX.out]
  go_enter Tryz.func130, Tryz.ntmps130
  go_wp2_with fail
  refine (HP.out).mono ?_
  rintro e w2 ⟨rfl, hb⟩
  have HB := h_ (bl_ hb (.cells #[.int .i64 2, .string k2, .int .i64 k3] 147))
  clear hb
  go_wp2_with fail
  refine (HPA.out _).mono ?_
  rintro e w3 ⟨rfl, m, rfl⟩
  have HB3 := h_ (bd_ HB.out m)
  have HN := h_ (HNX.out _ (HR.out.below HB3.out))
  go_wp2_with fail
  refine (HN.out).mono ?_
  rintro e w4 ⟨rfl, hr4, hg4⟩
  have HG := h_ (a0a (a0b HB3.out) hg4)
  have HR4 := h_ hr4
  clear hg4 hr4
  go_wp2_with fail
  go_ret
  exact ⟨rfl, HR4.out, HG.out⟩
 ·have HXX := h_ (HNR.out.2 hk)
  rw [HXX.out]
  by_cases hk1 : k1 = 2
  ·subst hk1
   have hv2 : ¬ (v2 : Int) = 0 := fun e => hk ⟨rfl, by omega⟩
   have hvb : ((v2 : Int) == 0) = false := by rw [beq_eq_false_iff_ne]; exact hv2
   go_enter Tryz.func130, Tryz.ntmps130
   go_wp2_with fail
   refine (HP.out).mono ?_
   rintro e w2 ⟨rfl, hb⟩
   have HB := h_ (bl_ hb (.cells #[.int .i64 2, .string k2, .int .i64 k3] 147))
   clear hb
   go_wp2_with fail
   refine (HPA.out _).mono ?_
   rintro e w3 ⟨rfl, m, rfl⟩
   have HB3 := h_ (bd_ HB.out m)
   have HF := h_ (e0j _ 110 (HR.out.below HB3.out))
   go_wp2_with fail
   refine (HF.out).mono ?_
   rintro e w4 ⟨rfl, hr4, hg4⟩
   have HG := h_ (a0a (a0b HB3.out) hg4)
   have HR4 := h_ hr4
   clear hg4 hr4
   go_wp2_with fail
   go_ret
   exact ⟨rfl, HR4.out, HG.out⟩
  ·have hkb : (k1 == 2) = false := by simpa using hk1
   go_enter Tryz.func130, Tryz.ntmps130
   go_wp2_with fail
   refine (HP.out).mono ?_
   rintro e w2 ⟨rfl, hb⟩
   have HB := h_ (bl_ hb (.cells #[.int .i64 k1, .string k2, .int .i64 k3] 147))
   clear hb
   go_wp2_with fail
   refine (HPA.out _).mono ?_
   rintro e w3 ⟨rfl, m, rfl⟩
   have HB3 := h_ (bd_ HB.out m)
   have HF := h_ (e0j _ 110 (HR.out.below HB3.out))
   go_wp2_with fail
   refine (HF.out).mono ?_
   rintro e w4 ⟨rfl, hr4, hg4⟩
   have HG := h_ (a0a (a0b HB3.out) hg4)
   have HR4 := h_ hr4
   clear hg4 hr4
   go_wp2_with fail
   go_ret
   exact ⟨rfl, HR4.out, HG.out⟩
def b0d (tk : List Tk) (s : RS) (most : Nat) : Nat × RS := if (a0p tk s).1 = 2 ∧ (numT (a0p tk s).2.1).2 = 0 ∧ most ≤ (numT (a0p tk s).2.1).1 then (0, e0e tk s 1) else a0c tk s
theorem i0t (tk : List Tk) (s : RS) (most : Nat) (h : 0 < most) : (b0d tk s most).1 < most := by
 unfold b0d
 by_cases h1 : (a0p tk s).1 = 2 ∧ (numT (a0p tk s).2.1).2 = 0 ∧ most ≤ (numT (a0p tk s).2.1).1
 ·rw [if_pos h1]; exact h
 ·rw [if_neg h1]
  unfold a0c
  by_cases h2 : (a0p tk s).1 = 2 ∧ (numT (a0p tk s).2.1).2 = 0
  ·rw [if_pos h2]
   have : ¬ most ≤ (numT (a0p tk s).2.1).1 := fun h3 => h1 ⟨h2.1, h2.2, h3⟩
   exact Nat.lt_of_not_le this
  ·rw [if_neg h2]; exact h
theorem l0s {r n : Nat} {p : Option Addr} {c : Nat} {tk : List Tk} {s : RS} (w : World) (most : Nat) (h0 : 0 < most) (h63 : most ≤ 1000000) (h : a0y w r n p c tk s) :
  Calls Tryz.prog 133 #[.pointer (some ⟨r, 0, none⟩), .int .i64 most] w fun e w' => e = .returned (.int .i64 ((b0d tk s most).1 : Nat)) ∧ a0y w' r n p c tk (b0d tk s most).2 ∧ w.grownBy w' (some r) := by
 have HR := h_ h
 have HP := d0t w h
 have hsz := h.peek_size
 have HSL := i0t tk s most h0
 have HNR := h_ (show ((a0p tk s).1 = 2 ∧ (numT (a0p tk s).2.1).2 = 0 ∧ most ≤ (numT (a0p tk s).2.1).1 → b0d tk s most = (0, e0e tk s 1)) ∧ (¬ ((a0p tk s).1 = 2 ∧ (numT (a0p tk s).2.1).2 = 0 ∧ most ≤ (numT (a0p tk s).2.1).1) → b0d tk s most = a0c tk s) from ⟨fun e => by unfold b0d; rw [if_pos e], fun e => by unfold b0d; rw [if_neg e]⟩)
 have HVL := t0o (a0p tk s).2.1.data.toList
 clear h
 generalize a0p tk s = t at *
 obtain ⟨k1, k2, k3⟩ := t
 simp only [tkV] at HP hsz HVL
 have HP := h_ HP
 have HPA := fun w2 => k0i k2 w2 (by unfold maxLen; omega)
 have HNE := h_ (show b0h k2.data.toList = numT k2 from rfl)
 rw [HNE.out] at HPA HVL
 have HPA := h_ HPA
 generalize numT k2 = v at *
 obtain ⟨v1, v2⟩ := v
 simp only at HNR HVL
 have HNX := h_ (fun w2 (hb : a0y w2 r n p c tk s) => g0f w2 hb)
 have hwm : IntKind.u64.wrap ((most : Nat) : Int) = (most : Int) := by rw [IntKind.wrap_u64]; omega
 by_cases hk : k1 = 2 ∧ v2 = 0 ∧ most ≤ v1
 ·have HXX := h_ (HNR.out.1 hk)
  obtain ⟨rfl, rfl, hge⟩ := hk
  rw [HXX.out]
  have hgi : (most : Int) ≤ v1 := by omega
  go_enter Tryz.func133, Tryz.ntmps133
  go_wp2_with fail
  refine (HP.out).mono ?_
  rintro e w2 ⟨rfl, hb⟩
  have HB := h_ (bl_ hb (.cells #[.int .i64 2, .string k2, .int .i64 k3] 147))
  clear hb
  go_wp2_with fail
  refine (HPA.out _).mono ?_
  rintro e w3 ⟨rfl, m, rfl⟩
  have HB3 := h_ (bd_ HB.out m)
  have HF := h_ (e0j _ 1 (HR.out.below HB3.out))
  go_wp2_with fail
  refine (HF.out).mono ?_
  rintro e w4 ⟨rfl, hr4, hg4⟩
  have HG := h_ (a0a (a0b HB3.out) hg4)
  have HR4 := h_ hr4
  clear hg4 hr4
  go_wp2_with fail
  go_ret
  exact ⟨rfl, HR4.out, HG.out⟩
 ·have HXX := h_ (HNR.out.2 hk)
  rw [HXX.out] at HSL ⊢
  obtain ⟨q, hq⟩ : ∃ q, a0c tk s = q := ⟨_, rfl⟩
  obtain ⟨q1, q2⟩ := q
  rw [hq] at HNX HSL ⊢
  have hwq : IntKind.i64.wrap ((q1 : Nat) : Int) = (q1 : Int) := IntWalk.i64_in _ (by simp at HSL; omega)
  have hcase : k1 ≠ 2 ∨ (k1 = 2 ∧ v2 ≠ 0) ∨ (k1 = 2 ∧ v2 = 0 ∧ ¬ most ≤ v1) := by omega
  rcases hcase with hk1 | ⟨rfl, hv⟩ | ⟨rfl, rfl, hge⟩
  ·have hkb : (k1 == 2) = false := by simpa using hk1
   go_enter Tryz.func133, Tryz.ntmps133
   go_wp2_with fail
   refine (HP.out).mono ?_
   rintro e w2 ⟨rfl, hb⟩
   have HB := h_ (bl_ hb (.cells #[.int .i64 k1, .string k2, .int .i64 k3] 147))
   clear hb
   go_wp2_with fail
   refine (HPA.out _).mono ?_
   rintro e w3 ⟨rfl, m, rfl⟩
   have HB3 := h_ (bd_ HB.out m)
   have HF := h_ (HNX.out _ (HR.out.below HB3.out))
   go_wp2_with fail
   refine (HF.out).mono ?_
   rintro e w4 ⟨rfl, hr4, hg4⟩
   have HG := h_ (a0a (a0b HB3.out) hg4)
   have HR4 := h_ hr4
   clear hg4 hr4
   go_wp2_with fail
   go_ret
   exact ⟨by first | rfl | simp [hwq], HR4.out, HG.out⟩
  ·have hvb : ((v2 : Int) == 0) = false := by rw [beq_eq_false_iff_ne]; omega
   have hv2 : ¬ (v2 : Int) = 0 := by omega
   go_enter Tryz.func133, Tryz.ntmps133
   go_wp2_with fail
   refine (HP.out).mono ?_
   rintro e w2 ⟨rfl, hb⟩
   have HB := h_ (bl_ hb (.cells #[.int .i64 2, .string k2, .int .i64 k3] 147))
   clear hb
   go_wp2_with fail
   refine (HPA.out _).mono ?_
   rintro e w3 ⟨rfl, m, rfl⟩
   have HB3 := h_ (bd_ HB.out m)
   have HF := h_ (HNX.out _ (HR.out.below HB3.out))
   go_wp2_with fail
   refine (HF.out).mono ?_
   rintro e w4 ⟨rfl, hr4, hg4⟩
   have HG := h_ (a0a (a0b HB3.out) hg4)
   have HR4 := h_ hr4
   clear hg4 hr4
   go_wp2_with fail
   go_ret
   exact ⟨by first | rfl | simp [hwq], HR4.out, HG.out⟩
  ·have hgi : ¬ (most : Int) ≤ v1 := by omega
   have hgd : decide ((most : Int) ≤ v1) = false := decide_eq_false hgi
   go_enter Tryz.func133, Tryz.ntmps133
   go_wp2_with fail
   refine (HP.out).mono ?_
   rintro e w2 ⟨rfl, hb⟩
   have HB := h_ (bl_ hb (.cells #[.int .i64 2, .string k2, .int .i64 k3] 147))
   clear hb
   go_wp2_with fail
   refine (HPA.out _).mono ?_
   rintro e w3 ⟨rfl, m, rfl⟩
   have HB3 := h_ (bd_ HB.out m)
   have HF := h_ (HNX.out _ (HR.out.below HB3.out))
   go_wp2_with fail
   refine (HF.out).mono ?_
   rintro e w4 ⟨rfl, hr4, hg4⟩
   have HG := h_ (a0a (a0b HB3.out) hg4)
   have HR4 := h_ hr4
   clear hg4 hr4
   go_wp2_with fail
   go_ret
   exact ⟨by first | rfl | simp [hwq], HR4.out, HG.out⟩
end
section
open Go.RowKit Go.WideShapes Go.ChangeShapes
def d0r (P : Program) (w : World) (t : TypeId) (cs : List Value) : Prop :=
 ∃ (H : Type) (enc : TypeId × Value → H) (base : Nat) (spare : Nat → Bool) (held : Bool) (fuel : Nat) (x : DataW H × List MemPlace), DataW.trod enc P w base spare held fuel t cs = some x
section
variable {P : Program} {w : World} {t e : TypeId} {cs : List Value}
theorem x0n {H : Type} {enc : TypeId × Value → H} {base : Nat} {spare : Nat → Bool} {held : Bool} {v : Value} {d : DataW H} {p : List MemPlace} (h : DataW.Trod enc P w base spare held t v d p) : d0r P w t v.cells.toList := by
 obtain ⟨fuel, hf⟩ := h
 exact ⟨H, enc, base, spare, held, fuel, (d, p), hf⟩
theorem c0e {k : IntKind} (ht : P.underlying t = some (.int k)) (h : d0r P w t cs) : ∃ n, cs = [.int k n] ∧ (Lit.int k n).wf = true := by
 obtain ⟨_, _, _, _, _, _, _, hf⟩ := h
 obtain ⟨n, h1, _, h2⟩ := DataW.trod_int ht hf
 exact ⟨n, h1, h2⟩
theorem z0x (ht : P.underlying t = some .bool) (h : d0r P w t cs) : ∃ b, cs = [.bool b] := by
 obtain ⟨_, _, _, _, _, _, _, hf⟩ := h
 obtain ⟨b, h1, _⟩ := DataW.trod_bool ht hf
 exact ⟨b, h1⟩
theorem t0q (ht : P.underlying t = some .string) (h : d0r P w t cs) : ∃ s : ByteArray, cs = [.string s] ∧ s.size ≤ maxLen := by
 obtain ⟨_, _, _, _, _, _, _, hf⟩ := h
 obtain ⟨s, h1, _, h2⟩ := DataW.trod_string ht hf
 exact ⟨s, h1, h2⟩
theorem i0g {fs : Array Field} (ht : P.underlying t = some (.struct fs)) (h : d0r P w t cs) :
  cs.length = P.cellsOf t ∧ ∀ (i : Nat) (f : Field), fs[i]? = some f → d0r P w f.type ((cs.drop f.offset).take (P.cellsOf f.type)) := by
 obtain ⟨H, enc, base, spare, held, fuel, x, hf⟩ := h
 obtain ⟨xs, n, _, _, hl, hx, hi⟩ := DataW.trod_struct ht hf
 refine ⟨hl, fun i f hf' => ?_⟩
 have hlt : i < fs.size := (Array.getElem?_eq_some_iff.1 hf').1
 have h1 := hi i f hf'
 rw [List.getElem?_eq_getElem (show i < xs.length by omega)] at h1
 exact ⟨H, enc, base, spare, held, n, _, h1⟩
theorem v0s (ht : P.underlying t = some (.slice e)) (h : d0r P w t cs) :
  cs = [.slice none 0 0] ∨ ∃ (a : Addr) (len cap : Nat), cs = [.slice (some a) len cap] ∧ len ≤ cap ∧ cap ≤ maxLen ∧
   ∀ i, i < len → ∃ es, es.length = P.cellsOf e ∧ (∀ j, j < P.cellsOf e → w.cell? ((a.add (i * P.cellsOf e)).add j) = es[j]?) ∧ d0r P w e es := by
 obtain ⟨H, enc, base, spare, held, fuel, x, hf⟩ := h
 rcases DataW.trod_slice ht hf with ⟨h1, _⟩ | ⟨a, len, cap, elems, rest, n, _, h1, _, _, hlc, hcm, hel, hi, _, _⟩
 ·exact .inl h1
 ·refine .inr ⟨a, len, cap, h1, hlc, hcm, fun i hil => ?_⟩
  have h2 := hi i hil
  rw [List.getElem?_eq_getElem (show i < elems.length by omega)] at h2
  obtain ⟨es, h3, h4⟩ := Option.bind_eq_some_iff.1 h2
  obtain ⟨_, h5, h6⟩ := World.cells?_some h3
  exact ⟨es, h5, h6, H, enc, base, spare, held, n, _, h4⟩
end
end
section
open Go.RowKit Go.WideShapes Go.ChangeShapes
inductive CT where
 | mk (kind core reg : Int) (addr value : Nat) (args : List CT) : CT
mutual
def CT.At (w : World) (S : Nat → Prop) : CT → List Value → Prop
 | .mk k c r a v args, cs => ∃ p cap, cs = [.int .i64 k, .int .i64 c, .int .i64 r, .int .u64 (a : Nat), .int .u64 (v : Nat), .slice p args.length cap] ∧ args.length ≤ cap ∧ cap ≤ maxLen ∧ a < 18446744073709551616 ∧ (v < 18446744073709551616 ∧ I64 k ∧ I64 c ∧ I64 r) ∧ CT.Row w S p 0 args
def CT.Row (w : World) (S : Nat → Prop) (p : Option Addr) : Nat → List CT → Prop
 | _, [] => True
 | i, t :: ts => (∃ g off es, p = some ⟨g, off, none⟩ ∧ S g ∧ es.length = 6 ∧ (∀ j, j < 6 → w.cell? ⟨g, off + i * 6 + j, none⟩ = es[j]?) ∧ CT.At w S t es) ∧ CT.Row w S p (i + 1) ts
end
mutual
theorem CT.At.keep {w w' : World} {S : Nat → Prop} (hk : ∀ (a : Addr) (v : Value), S a.block → w.cell? a = some v → w'.cell? a = some v) : ∀ (t : CT) (cs : List Value), CT.At w S t cs → CT.At w' S t cs
 | .mk k c r a v args, cs, h => by
  unfold CT.At at h ⊢
  obtain ⟨p, cap, h1, h2, h3, h4, h5, h6⟩ := h
  exact ⟨p, cap, h1, h2, h3, h4, h5, CT.Row.keep hk p 0 args h6⟩
theorem CT.Row.keep {w w' : World} {S : Nat → Prop} (hk : ∀ (a : Addr) (v : Value), S a.block → w.cell? a = some v → w'.cell? a = some v) (p : Option Addr) : ∀ (i : Nat) (ts : List CT), CT.Row w S p i ts → CT.Row w' S p i ts
 | _, [], _ => by unfold CT.Row; trivial
 | i, t :: ts, h => by
  unfold CT.Row at h ⊢
  obtain ⟨⟨g, off, es, h1, h2, h3, h4, h5⟩, h6⟩ := h
  refine ⟨⟨g, off, es, h1, h2, h3, fun j hj => ?_, CT.At.keep hk t es h5⟩, CT.Row.keep hk p (i + 1) ts h6⟩
  have h7 := h4 j hj
  rw [List.getElem?_eq_getElem (show j < es.length by omega)] at h7 ⊢
  exact hk _ _ h2 h7
end
theorem CT.Row.at_ {w : World} {S : Nat → Prop} {p : Option Addr} : ∀ {ts : List CT} {i : Nat}, CT.Row w S p i ts → ∀ {j : Nat} (hj : j < ts.length), ∃ g off es, p = some ⟨g, off, none⟩ ∧ S g ∧ es.length = 6 ∧ (∀ x, x < 6 → w.cell? ⟨g, off + (i + j) * 6 + x, none⟩ = es[x]?) ∧ CT.At w S ts[j] es
 | t :: ts, i, h, 0, hj => by
  unfold CT.Row at h
  obtain ⟨⟨g, off, es, h1, h2, h3, h4, h5⟩, _⟩ := h
  exact ⟨g, off, es, h1, h2, h3, by rw [Nat.add_zero]; exact h4, h5⟩
 | t :: ts, i, h, j + 1, hj => by
  unfold CT.Row at h
  obtain ⟨g, off, es, h1, h2, h3, h4, h5⟩ := CT.Row.at_ h.2 (j := j) (by simpa using hj)
  exact ⟨g, off, es, h1, h2, h3, fun x hx => by rw [show i + (j + 1) = i + 1 + j by omega]; exact h4 x hx, h5⟩
theorem CT.At.below {w w' : World} {S : Nat → Prop} {t : CT} {cs : List Value} (h : CT.At w S t cs) (hb : Below w.heap.size w w') : CT.At w' S t cs :=
 CT.At.keep (fun a v _ hc => (hb.cell (World.block_lt_of_cell? w a hc)).trans hc) t cs h
theorem CT.At.dn {w : World} {S : Nat → Prop} {t : CT} {cs : List Value} (h : CT.At w S t cs) (k : Nat) : CT.At (w.drewN k) S t cs := h.below (bd_ (Below.refl _ _) k)
mutual
theorem CT.At.sub {w : World} {S S' : Nat → Prop} (hs : ∀ g, S g → g < w.heap.size → S' g) : ∀ (t : CT) (cs : List Value), CT.At w S t cs → CT.At w S' t cs
 | .mk k c r a v args, cs, h => by
  unfold CT.At at h ⊢
  obtain ⟨p, cap, h1, h2, h3, h4, h5, h6⟩ := h
  exact ⟨p, cap, h1, h2, h3, h4, h5, CT.Row.sub hs p 0 args h6⟩
theorem CT.Row.sub {w : World} {S S' : Nat → Prop} (hs : ∀ g, S g → g < w.heap.size → S' g) (p : Option Addr) : ∀ (i : Nat) (ts : List CT), CT.Row w S p i ts → CT.Row w S' p i ts
 | _, [], _ => by unfold CT.Row; trivial
 | i, t :: ts, h => by
  unfold CT.Row at h ⊢
  obtain ⟨⟨g, off, es, h1, h2, h3, h4, h5⟩, h6⟩ := h
  refine ⟨⟨g, off, es, h1, hs g h2 ?_, h3, h4, CT.At.sub hs t es h5⟩, CT.Row.sub hs p (i + 1) ts h6⟩
  have h7 := h4 0 (by omega)
  rw [List.getElem?_eq_getElem (show 0 < es.length by omega)] at h7
  exact World.block_lt_of_cell? w _ h7
end
structure G2 (r x : Nat) (w w' : World) : Prop where
 os : w'.os = w.os
 tape : w'.tape = w.tape
 output : w'.output = w.output
 size : w.heap.size ≤ w'.heap.size
 block : ∀ i, i < w.heap.size → i ≠ r → i ≠ x → w'.heap[i]? = w.heap[i]?
theorem G2.refl (r x : Nat) (w : World) : G2 r x w w := ⟨rfl, rfl, rfl, Nat.le_refl _, fun _ _ _ _ => rfl⟩
theorem G2.trans {r x : Nat} {a b c : World} (h : G2 r x a b) (k : G2 r x b c) : G2 r x a c :=
 ⟨k.os.trans h.os, k.tape.trans h.tape, k.output.trans h.output, Nat.le_trans h.size k.size, fun i hi h1 h2 => (k.block i (Nat.lt_of_lt_of_le hi h.size) h1 h2).trans (h.block i hi h1 h2)⟩
theorem G2.ofBelow {r x : Nat} {w w' : World} (hb : Below w.heap.size w w') : G2 r x w w' := ⟨hb.os, hb.tape, hb.output, hb.size, fun i hi _ _ => hb.block i hi⟩
theorem G2.ofR {r x : Nat} {w w' : World} (hg : w.grownBy w' (some r)) : G2 r x w w' := ⟨hg.os, hg.tape, hg.output, hg.size, fun i hi h _ => hg.block i hi (fun e => h (by injection e))⟩
theorem G2.ofX {r x : Nat} {w w' : World} (hg : w.grownBy w' (some x)) : G2 r x w w' := ⟨hg.os, hg.tape, hg.output, hg.size, fun i hi _ h => hg.block i hi (fun e => h (by injection e))⟩
theorem G2.below {r x B : Nat} {w w' : World} (h : G2 r x w w') (hr : B ≤ r) (hx : B ≤ x) (hB : B ≤ w.heap.size) : Below B w w' := ⟨h.os, h.tape, h.output, h.size, fun i hi => h.block i (by omega) (by omega) (by omega)⟩
theorem Blk.g2 {r x : Nat} {w w' : World} {T : TypeId} {g : Nat} {cs : List Value} (h : Blk w T g cs) (hg : G2 r x w w') (h1 : g ≠ r) (h2 : g ≠ x) : Blk w' T g cs := (hg.block g h.lt h1 h2).trans h
theorem CT.At.g2 {w w' : World} {S : Nat → Prop} {r x : Nat} {t : CT} {cs : List Value} (h : CT.At w S t cs) (hg : G2 r x w w') (hr : ¬ S r) (hx : ¬ S x) : CT.At w' S t cs :=
 CT.At.keep (fun a v hB hc => (World.cell?_of_block (hg.block a.block (World.block_lt_of_cell? w a hc) (fun e => hr (e ▸ hB)) (fun e => hx (e ▸ hB)))).trans hc) t cs h
def f0q (P : Program) (w : World) (fuel : Nat) (t : TypeId) (cs : List Value) : Prop :=
 ∃ (H : Type) (enc : TypeId × Value → H) (base : Nat) (spare : Nat → Bool) (held : Bool) (x : DataW H × List MemPlace), DataW.trod enc P w base spare held fuel t cs = some x
theorem e1k {P : Program} {w : World} {t : TypeId} {H : Type} {enc : TypeId × Value → H} {base : Nat} {spare : Nat → Bool} {held : Bool} {v : Value} {d : DataW H} {p : List MemPlace} (h : DataW.Trod enc P w base spare held t v d p) : ∃ fuel, f0q P w fuel t v.cells.toList := by
 obtain ⟨fuel, hf⟩ := h
 exact ⟨fuel, H, enc, base, spare, held, (d, p), hf⟩
theorem f0q.opens {P : Program} {w : World} {fuel : Nat} {t : TypeId} {cs : List Value} (h : f0q P w fuel t cs) : d0r P w t cs := by
 obtain ⟨H, enc, base, spare, held, x, hf⟩ := h
 exact ⟨H, enc, base, spare, held, fuel, x, hf⟩
section
variable {P : Program} {w : World} {fuel : Nat} {t e : TypeId} {cs : List Value}
theorem j0l {fs : Array Field} (ht : P.underlying t = some (.struct fs)) (h : f0q P w fuel t cs) :
  cs.length = P.cellsOf t ∧ ∃ n, fuel = n + 1 ∧ ∀ (i : Nat) (f : Field), fs[i]? = some f → f0q P w n f.type ((cs.drop f.offset).take (P.cellsOf f.type)) := by
 obtain ⟨H, enc, base, spare, held, x, hf⟩ := h
 obtain ⟨xs, n, hn, h2, hl, hx, hi⟩ := DataW.trod_struct ht hf
 refine ⟨hl, n, ?_, fun i f hf' => ?_⟩
 ·exact hn
 ·have hlt : i < fs.size := (Array.getElem?_eq_some_iff.1 hf').1
  have h1 := hi i f hf'
  rw [List.getElem?_eq_getElem (show i < xs.length by omega)] at h1
  exact ⟨H, enc, base, spare, held, _, h1⟩
theorem t0r (ht : P.underlying t = some (.slice e)) (h : f0q P w fuel t cs) :
  cs = [.slice none 0 0] ∨ ∃ (a : Addr) (len cap n : Nat), fuel = n + 1 ∧ cs = [.slice (some a) len cap] ∧ len ≤ cap ∧ cap ≤ maxLen ∧
   ∀ i, i < len → ∃ es, es.length = P.cellsOf e ∧ (∀ j, j < P.cellsOf e → w.cell? ((a.add (i * P.cellsOf e)).add j) = es[j]?) ∧ f0q P w n e es := by
 obtain ⟨H, enc, base, spare, held, x, hf⟩ := h
 rcases DataW.trod_slice ht hf with ⟨h1, _⟩ | ⟨a, len, cap, elems, rest, n, hn, h1, _, _, hlc, hcm, hel, hi, _, _⟩
 ·exact .inl h1
 ·refine .inr ⟨a, len, cap, n, ?_, h1, hlc, hcm, fun i hil => ?_⟩
  ·exact hn
  ·have h2 := hi i hil
   rw [List.getElem?_eq_getElem (show i < elems.length by omega)] at h2
   obtain ⟨es, h3, h4⟩ := Option.bind_eq_some_iff.1 h2
   obtain ⟨_, h5, h6⟩ := World.cells?_some h3
   exact ⟨es, h5, h6, H, enc, base, spare, held, _, h4⟩
end
end
end Go.Proofs.YtmnojnopejhebaaGreat
