/- The contract of trim. -/
import Derived.Test.YtmnojnopejhebaaGreatMgaa
import Derived.Test.YtmnojnopejhebaaGreatMgab
import Derived.Test.YtmnojnopejhebaaGreatMgaf
import Derived.Test.YtmnojnopejhebaaGreatRows
import Derived.Lib.IndexAny
import Derived.Laws.Rows
namespace Go.Proofs.YtmnojnopejhebaaGreat
set_option linter.unusedVariables false
set_option linter.unusedSimpArgs false
set_option maxRecDepth 100000
set_option maxHeartbeats 25600000
section
open Go.RowKit
theorem G2.grown {r x : Nat} {w w1 w' : World} (hg : G2 r x w1 w') (hb : Below w.heap.size w w1) (hx : w.heap.size ≤ x) : w.grownBy w' (some r) :=
 ⟨hg.os.trans hb.os, hg.tape.trans hb.tape, hg.output.trans hb.output, Nat.le_trans hb.size hg.size, fun i hi hne => (hg.block i (Nat.lt_of_lt_of_le hi hb.size) (fun e => hne (by rw [e])) (by omega)).trans (hb.block i hi)⟩
def h0d (tk : List Tk) (s : RS) : CT × RS := ((a0e tk (4 * tk.length + 3) .either s 0).1, endR tk (a0e tk (4 * tk.length + 3) .either s 0).2.1)
theorem a1t {r n : Nat} {p : Option Addr} {c : Nat} {tk : List Tk} {s : RS} (w : World) (h : a0y w r n p c tk s) (hpw : ∀ a, p = some a → a.block < w.heap.size) :
  Calls Tryz.prog 137 #[.pointer (some ⟨r, 0, none⟩)] w fun e w' => ∃ cs : List Value, e = .returned (.agg cs.toArray) ∧ CT.At w' (fun g => w.heap.size ≤ g) (h0d tk s).1 cs ∧ a0y w' r n p c tk (h0d tk s).2 ∧ w.grownBy w' (some r) := by
 have hlen := h.2.2.1
 have HB := h_ (show Below w.heap.size w ((w.alloc (.cells #[.int .i64 0, .int .i64 0, .int .i64 0, .int .u64 0, .int .u64 0, .slice none 0 0] 29)).alloc (.cells #[.pointer (some ⟨r, 0, none⟩), .int .i64 0] 201)) from bl_ (bl_ (Below.refl _ _) _) _)
 have hrl := h.lt
 have hC : CAt ((w.alloc (.cells #[.int .i64 0, .int .i64 0, .int .i64 0, .int .u64 0, .int .u64 0, .slice none 0 0] 29)).alloc (.cells #[.pointer (some ⟨r, 0, none⟩), .int .i64 0] 201)) r n p c tk (w.heap.size + 1) s 0 := by
  refine ⟨?_, h.below HB.out, by omega, fun a ha => by have := hpw a ha; omega⟩
  simpa using Blk.new (w.alloc (.cells #[.int .i64 0, .int .i64 0, .int .i64 0, .int .u64 0, .int .u64 0, .slice none 0 0] 29)) 201 [.pointer (some ⟨r, 0, none⟩), .int .i64 0]
 have HZ := h_ (show Blk ((w.alloc (.cells #[.int .i64 0, .int .i64 0, .int .i64 0, .int .u64 0, .int .u64 0, .slice none 0 0] 29)).alloc (.cells #[.pointer (some ⟨r, 0, none⟩), .int .i64 0] 201)) 29 w.heap.size [.int .i64 0, .int .i64 0, .int .i64 0, .int .u64 0, .int .u64 0, .slice none 0 0] from (Blk.new w _ _).alloc _)
 have H0 := h_ h
 have HP := h_ (show h0d tk s = ((a0e tk (4 * tk.length + 3) .either s 0).1, endR tk (a0e tk (4 * tk.length + 3) .either s 0).2.1) from rfl)
 have HC := h_ ((e1c tk (4 * tk.length + 3)).2.2 _ r n p c (w.heap.size + 1) s 0 hC ⟨by omega, fun _ => by omega⟩ (by omega))
 clear h hC
 generalize a0e tk (4 * tk.length + 3) .either s 0 = y at *
 obtain ⟨Y, hY⟩ : ∃ Y, Y = h0d tk s := ⟨_, rfl⟩
 rw [← hY] at HP ⊢
 clear hY
 go_enter Tryz.func137, Tryz.ntmps137
 go_wp2_with fail
 refine (HC.out).mono ?_
 rintro e w2 ⟨cs, rfl, ht, hc, hg⟩
 obtain ⟨k1, co1, rg1, ad1, va1, p1, l1, cp1, rfl⟩ := ht.cells
 have hz2 : w.heap.size + 2 ≤ w2.heap.size := by have := hg.size; simpa using this
 have HZ2 := h_ (HZ.out.g2 hg (by omega) (by omega))
 have HG2 := h_ (hg.grown HB.out (by omega))
 have HB3 := h_ (show Below w2.heap.size w2 (w2.alloc (.cells #[.int .i64 k1, .int .i64 co1, .int .i64 rg1, .int .u64 ad1, .int .u64 va1, .slice p1 l1 cp1] 29)) from bl_ (Below.refl _ _) _)
 have HN := h_ (show Blk (w2.alloc (.cells #[.int .i64 k1, .int .i64 co1, .int .i64 rg1, .int .u64 ad1, .int .u64 va1, .slice p1 l1 cp1] 29)) 29 w2.heap.size [.int .i64 k1, .int .i64 co1, .int .i64 rg1, .int .u64 ad1, .int .u64 va1, .slice p1 l1 cp1] from Blk.new _ _ _)
 have HT := h_ (ht.sub (S' := fun g => w.heap.size < g) (fun g hg1 hg2 => by simp at hg1; omega))
 have HC2 := h_ hc
 have HE := h_ (f1q _ (hc.below HB3.out).2.1)
 clear hc hg ht HC HZ HB
 have c0 : w2.cell? ⟨w.heap.size + 1, 0, none⟩ = some (.pointer (some ⟨r, 0, none⟩)) := HC2.out.1.cell 0
 have hx2 : w.heap.size + 1 < w2.heap.size := by omega
 go_wp2_with fail
 refine (HE.out).mono ?_
 rintro e w3 ⟨rfl, hr, hg⟩
 have hz3 : w2.heap.size < w3.heap.size := by have := hg.size; simp at this; omega
 have HN3 := h_ (HN.out.kept hg (by intro e; injection e; omega))
 have HZ3 := h_ ((HZ2.out.below HB3.out).kept hg (by intro e; injection e; omega))
 have HR3 := h_ hr
 have HT3 := h_ ((HT.out.below HB3.out).g2 (G2.ofR (x := r) hg) (by omega) (by omega))
 have HG3 := h_ (a0a (a0a HG2.out (a0b HB3.out)) hg)
 clear hr hg HE HC2 HZ2 HN HT HB3 c0 hx2
 obtain ⟨n0, n1, n2, n3, n4, n5⟩ := c0d HN3.out
 obtain ⟨z0, z1, z2, z3, z4, z5⟩ := c0d HZ3.out
 have y0 := HZ3.out.free 0
 have y1 := HZ3.out.free 1
 have y2 := HZ3.out.free 2
 have y3 := HZ3.out.free 3
 have y4 := HZ3.out.free 4
 have y5 := HZ3.out.free 5
 have hzw : w.heap.size < w3.heap.size := by omega
 go_wp2_with fail
 have hB := o0g HZ3.out (.int .i64 k1) (.int .i64 co1) (.int .i64 rg1) (.int .u64 ad1) (.int .u64 va1) (.slice p1 l1 cp1)
 have hF := ((((((Far.refl w.heap.size w3).set 0 (.int .i64 k1)).set 1 (.int .i64 co1)).set 2 (.int .i64 rg1)).set 3 (.int .u64 ad1)).set 4 (.int .u64 va1)).set 5 (.slice p1 l1 cp1)
 have hG := q0u HG3.out (Nat.le_refl _) (.int .i64 k1) (.int .i64 co1) (.int .i64 rg1) (.int .u64 ad1) (.int .u64 va1) (.slice p1 l1 cp1)
 generalize ((((((w3.setCell ⟨w.heap.size, 0, none⟩ (.int .i64 k1)).setCell ⟨w.heap.size, 1, none⟩ (.int .i64 co1)).setCell ⟨w.heap.size, 2, none⟩ (.int .i64 rg1)).setCell ⟨w.heap.size, 3, none⟩ (.int .u64 ad1)).setCell ⟨w.heap.size, 4, none⟩ (.int .u64 va1)).setCell ⟨w.heap.size, 5, none⟩ (.slice p1 l1 cp1)) = W at *
 refine bodyPost_ret (results_cell_row rfl _ _ w.heap.size 29 #[.int .i64 k1, .int .i64 co1, .int .i64 rg1, .int .u64 ad1, .int .u64 va1, .slice p1 l1 cp1] (0, 0) _ rfl hB Tryz.underlying29 rfl (by kernel_rfl)) rfl ⟨f0p k1 co1 rg1 ad1 va1 (.slice p1 l1 cp1), rfl, ?_, ?_, hG⟩
 ·rw [HP.out]
  refine CT.At.sub (S := fun g => w.heap.size < g) (fun g hg _ => Nat.le_of_lt hg) _ _ (CT.At.keep (fun a v hB hc => ?_) _ _ HT3.out)
  exact (World.cell?_of_block (hF.block a.block (by omega))).trans hc
 ·rw [HP.out]
  exact H0.out.kept hG ((hF.block r (by omega)).trans HR3.out.1) HR3.out.2.2.2.2.1
end
section
open Go.RowKit
def tkOf (s : ByteArray) (at_ : Nat) (l : List (Nat × Nat × Nat)) : List Tk := l.map fun r => ((r.1 : Int), s.extract r.2.1 r.2.2, (at_ : Int) + (r.2.1 : Nat))
theorem y0w (s : ByteArray) (at_ : Nat) (l : List (Nat × Nat × Nat)) : tkL (tkOf s at_ l) = h0g s at_ l := by
 simp [tkL, tkOf, h0g, List.flatMap_map]
theorem t0p {w : World} {base : Nat} {e : TypeId} {size : Nat} {v : Value} {n : Nat} {xs : List Value} (h : w.ownsRow base e size v n xs) :
  ∃ p c, v = .slice p n c ∧ Rds w size p n xs ∧ (∀ a, p = some a → a.block < w.heap.size) := by
 obtain ⟨p, c, hv, hr, hc⟩ := Rds.of_own h
 refine ⟨p, c, hv, hr, fun a ha => ?_⟩
 obtain ⟨_, ⟨h1, h2⟩ | ⟨g, cap, cur, h1, hb, hg, _⟩⟩ := h
 ·rw [h1] at hv; injection hv with e1; rw [← e1] at ha; cases ha
 ·rw [h1] at hv; injection hv with e1; rw [← e1] at ha; injection ha with ha; rw [← ha]
  exact (Array.getElem?_eq_some_iff.1 hg).1
theorem g1q : ∀ (n : Nat) (s : ByteArray) (i : Nat) (acc : List (Nat × Nat × Nat)), s.size - i = n → (b0j s i acc).1.length ≤ acc.length + (s.size - i) + 1 := by
 intro n
 induction n using Nat.strongRecOn with
 | _ n ih =>
  intro s i acc hn
  rw [b0j]
  by_cases h : i < s.size
  ·rw [dif_pos h]
   by_cases h9 : (e0g s i).1 = 9
   ·rw [if_pos h9]; simp
   ·rw [if_neg h9]
    by_cases h2 : i < (e0g s i).2.1
    ·rw [dif_pos h2]
     have := ih (s.size - (e0g s i).2.1) (by omega) s (e0g s i).2.1 (if (e0g s i).1 = 0 then acc else acc ++ [((e0g s i).1, i, (e0g s i).2.1)]) rfl
     split at this
     ·rename_i h0; rw [if_pos h0]; omega
     ·rename_i h0; rw [if_neg h0]; simp at this; omega
    ·rw [dif_neg h2]; simp
  ·rw [dif_neg h]; simp
theorem i1h {p : Option Addr} {n c : Nat} {tk : List Tk} (w : World) (hr : Rds w 3 p n (tkL tk)) (hl : tk.length = n) (hp : ∀ a, p = some a → a.block < w.heap.size) (hn : n ≤ 1048577) (hs : ∀ t ∈ tk, t.2.1.size ≤ 1048576) :
  Calls Tryz.prog 90 #[.slice p n c] w fun e w' => e = .returned (.pointer (some ⟨w.heap.size, 0, none⟩)) ∧ a0y w' w.heap.size n p c tk ⟨0, 0, 0⟩ ∧ Below w.heap.size w w' := by
 have HB := h_ (show Below w.heap.size w (w.alloc (.cells #[.slice p n c, .int .i64 0, .int .i64 0, .int .i64 0] 172)) from bl_ (Below.refl _ _) _)
 have HN := h_ (show Blk (w.alloc (.cells #[.slice p n c, .int .i64 0, .int .i64 0, .int .i64 0] 172)) 172 w.heap.size [.slice p n c, .int .i64 0, .int .i64 0, .int .i64 0] from Blk.new w _ _)
 have HR := h_ (hr.below HB.out)
 go_enter Tryz.func90, Tryz.ntmps90
 go_wp2_with fail
 go_ret
 exact ⟨rfl, ⟨HN.out, HR.out, hl, fun a ha => by have := hp a ha; omega, by simp, hn, hs⟩, HB.out⟩
end
section
open Go.RowKit
abbrev b0o (op d n m imm kind : Int) : Value := .agg #[.int .i64 op, .int .i64 d, .int .i64 n, .int .i64 m, .int .i64 imm, .int .i64 kind]
def inB (n a b : Int) : Bool := decide (a ≤ n ∧ n ≤ b)
def opB (op : Int) : Bool := decide (1 ≤ op ∧ op ≤ 23)
theorem k0l {op : Int} (h : opB op = true) : op = 1 ∨ op = 2 ∨ op = 3 ∨ op = 4 ∨ op = 5 ∨ op = 6 ∨ op = 7 ∨ op = 8 ∨ op = 9 ∨ op = 10 ∨ op = 11 ∨ op = 12 ∨ op = 13 ∨ op = 14 ∨ op = 15 ∨ op = 16 ∨ op = 17 ∨ op = 18 ∨ op = 19 ∨ op = 20 ∨ op = 21 ∨ op = 22 ∨ op = 23 := by
 have := of_decide_eq_true h; omega
def d0i (op d n m : Int) : Prop := (1 ≤ op ∧ op ≤ 23) ∧ (0 ≤ d ∧ d ≤ 31) ∧ (0 ≤ n ∧ n ≤ 31) ∧ (0 ≤ m ∧ m ≤ 31)
def d0h (op d n m imm kind : Int) : Prop := (d = 0 ∨ op = 2 ∨ op = 3 ∨ op = 4 ∨ op = 5 ∨ op = 6 ∨ op = 7 ∨ op = 8 ∨ op = 9 ∨ op = 10 ∨ op = 11 ∨ op = 12 ∨ op = 13 ∨ op = 15 ∨ op = 16 ∨ op = 21 ∨ op = 23) ∧ (n = 0 ∨ op = 2 ∨ op = 3 ∨ op = 4 ∨ op = 5 ∨ op = 7 ∨ op = 8 ∨ op = 9 ∨ op = 10 ∨ op = 11 ∨ op = 12 ∨ op = 13) ∧ (m = 0 ∨ op = 8 ∨ op = 9 ∨ op = 10 ∨ op = 11 ∨ op = 12 ∨ op = 13) ∧ (imm = 0 ∨ op = 2 ∨ op = 3 ∨ op = 6 ∨ op = 7 ∨ op = 14 ∨ op = 15 ∨ op = 16 ∨ op = 17) ∧ (kind = 0 ∨ op = 6 ∨ op = 17 ∨ op = 18 ∨ op = 19 ∨ op = 21 ∨ op = 23)
def c0m (op imm kind : Int) : Prop := ((op = 2 ∨ op = 3) → 0 ≤ imm ∧ imm ≤ 32760 ∧ imm % 8 = 0) ∧ (op = 7 → 0 ≤ imm ∧ imm ≤ 4095) ∧ (op = 6 → 0 ≤ imm ∧ imm ≤ 65535 ∧ 0 ≤ kind ∧ kind ≤ 3) ∧
 (op = 14 → -33554432 ≤ imm ∧ imm ≤ 33554431) ∧ ((op = 15 ∨ op = 16) → -262144 ≤ imm ∧ imm ≤ 262143) ∧ (op = 17 → -262144 ≤ imm ∧ imm ≤ 262143 ∧ 0 ≤ kind ∧ kind ≤ 1)
def c0l (op d kind : Int) : Prop := ((op = 18 ∨ op = 19) → (9 ≤ kind ∧ kind ≤ 11) ∨ (13 ≤ kind ∧ kind ≤ 15)) ∧ (op = 21 → 0 ≤ kind ∧ kind ≤ 7 ∧ (¬ kind % 4 = 0 ∨ d = 31)) ∧ (op = 23 → 0 ≤ kind ∧ kind ≤ 2)
def b0e (op d n m imm kind : Int) : Prop := d0i op d n m ∧ d0h op d n m imm kind ∧ c0m op imm kind ∧ c0l op d kind
instance (op d n m : Int) : Decidable (d0i op d n m) := by unfold d0i; infer_instance
instance (op d n m imm kind : Int) : Decidable (d0h op d n m imm kind) := by unfold d0h; infer_instance
instance (op imm kind : Int) : Decidable (c0m op imm kind) := by unfold c0m; infer_instance
instance (op d kind : Int) : Decidable (c0l op d kind) := by unfold c0l; infer_instance
instance (op d n m imm kind : Int) : Decidable (b0e op d n m imm kind) := by unfold b0e; infer_instance
theorem a0j (a : Int) (b : Nat) : a.tmod b = 0 ↔ a % b = 0 := by
 rw [← Int.dvd_iff_tmod_eq_zero, ← Int.dvd_iff_emod_eq_zero]
def d0g (op d n m imm kind : Int) : Bool := decide (b0e op d n m imm kind)
theorem d1a {op d n m imm kind : Int} (h : b0e op d n m imm kind) : d0g op d n m imm kind = true := decide_eq_true h
theorem t0f {op d n m imm kind : Int} (h : ¬ b0e op d n m imm kind) : d0g op d n m imm kind = false := decide_eq_false h
theorem b0n {op d n m imm kind : Int} {b : Bool} (h : b = true ↔ b0e op d n m imm kind) : b = d0g op d n m imm kind := by
 unfold d0g
 cases b with
 | true => exact (decide_eq_true (h.1 rfl)).symm
 | false => exact (decide_eq_false (fun hp => by cases h.2 hp)).symm
end
section
open Go.RowKit
def f0d (op : Int) : List UInt8 := if op = 1 then [78, 79, 80] else if op = 2 then [76, 68, 82] else if op = 3 then [83, 84, 82] else if op = 4 then [76, 68, 65, 82] else if op = 5 then [83, 84, 76, 82] else if op = 7 then [65, 68, 68] else if op = 8 then [65, 68, 68] else if op = 9 then [83, 85, 66] else if op = 10 then [65, 78, 68] else if op = 11 then [79, 82, 82] else if op = 12 then [69, 79, 82] else if op = 13 then [83, 85, 66, 83] else if op = 14 then [66] else if op = 15 then [67, 66, 90] else if op = 16 then [67, 66, 78, 90] else if op = 20 then [73, 83, 66] else if op = 22 then [69, 82, 69, 84] else []
def barL (k : Int) : List UInt8 := if k = 15 then [83, 89] else if k = 13 then [76, 68] else if k = 14 then [83, 84] else if k = 11 then [73, 83, 72] else if k = 9 then [73, 83, 72, 76, 68] else if k = 10 then [73, 83, 72, 83, 84] else []
def g0u (k : Int) : List UInt8 := if k = 0 then [86, 77, 65, 76, 76, 69, 49, 73, 83] else if k = 1 then [86, 65, 69, 49, 73, 83] else if k = 2 then [86, 65, 65, 69, 49, 73, 83] else if k = 3 then [65, 83, 73, 68, 69, 49, 73, 83] else if k = 4 then [86, 77, 65, 76, 76, 69, 49] else if k = 5 then [86, 65, 69, 49] else if k = 6 then [86, 65, 65, 69, 49] else if k = 7 then [65, 83, 73, 68, 69, 49] else []
def sysL (k : Int) : List UInt8 := if k = 0 then [69, 83, 82, 95, 69, 76, 49] else if k = 1 then [70, 65, 82, 95, 69, 76, 49] else if k = 2 then [69, 76, 82, 95, 69, 76, 49] else []
def a0o (n : Int) : List UInt8 := if n < 0 then [46] ++ intL n else [46, 43] ++ intL n
def immL (n : Int) : List UInt8 := [35] ++ intL n
def n0f (op d n m : Int) : List UInt8 := f0d op ++ [32] ++ regL d ++ [44] ++ regL n ++ [44] ++ regL m
def e0z (op d n m imm kind : Int) : List UInt8 :=
 if op = 1 ∨ op = 20 ∨ op = 22 then f0d op
 else if (op = 2 ∨ op = 3) ∧ ¬ imm = 0 then f0d op ++ [32] ++ regL d ++ [44, 91] ++ regL n ++ [44] ++ immL imm ++ [93]
 else if op = 2 ∨ op = 3 ∨ op = 4 ∨ op = 5 then f0d op ++ [32] ++ regL d ++ [44, 91] ++ regL n ++ [93]
 else if op = 6 then (if kind = 0 then [77, 79, 86, 32] ++ regL d ++ [44] ++ immL imm else [77, 79, 86, 90, 32] ++ regL d ++ [44] ++ immL imm ++ [44, 76, 83, 76, 32, 35] ++ intL (16 * kind))
 else if op = 7 then [65, 68, 68, 32] ++ regL d ++ [44] ++ regL n ++ [44] ++ immL imm
 else if op = 14 then [66, 32] ++ a0o imm
 else if op = 15 ∨ op = 16 then f0d op ++ [32] ++ regL d ++ [44] ++ a0o imm
 else if op = 17 then (if kind = 0 then [66, 46, 69, 81, 32] ++ a0o imm else [66, 46, 78, 69, 32] ++ a0o imm)
 else if op = 18 then [68, 77, 66, 32] ++ barL kind
 else if op = 19 then [68, 83, 66, 32] ++ barL kind
 else if op = 21 then (if kind % 4 = 0 then [84, 76, 66, 73, 32] ++ g0u kind else [84, 76, 66, 73, 32] ++ g0u kind ++ [44] ++ regL d)
 else if op = 23 then [77, 82, 83, 32] ++ regL d ++ [44] ++ sysL kind
 else if op = 13 ∧ d = 31 then [67, 77, 80, 32] ++ regL n ++ [44] ++ regL m
 else n0f op d n m
def b0b (op d n m imm kind : Int) : List UInt8 := if b0e op d n m imm kind then e0z op d n m imm kind else []
end
section
def h0f (c : UInt8) : Bool := c == 32 || c == 9
def ownC (c : UInt8) : Bool := c == 44 || c == 91 || c == 93
def wc (c : UInt8) : Bool := !(h0f c || ownC c)
def t0x (c : UInt8) (l : List UInt8) (ws : List (List UInt8)) : List (List UInt8) :=
 match l, ws with
 | d :: _, w :: ws' => if wc d then (c :: w) :: ws' else [c] :: w :: ws'
 | _, ws => [c] :: ws
def b0a : List UInt8 → List (List UInt8)
 | [] => []
 | c :: l => if h0f c then b0a l else if ownC c then [c] :: b0a l else t0x c l (b0a l)
theorem s0o {c : UInt8} (h : h0f c = true) (l : List UInt8) : b0a (c :: l) = b0a l := by simp [b0a, h]
theorem y0q {c : UInt8} (h1 : h0f c = false) (h : ownC c = true) (l : List UInt8) : b0a (c :: l) = [c] :: b0a l := by simp [b0a, h, h1]
theorem l1j {c : UInt8} (h : wc c = true) : h0f c = false ∧ ownC c = false := by simpa [wc] using h
theorem o0n : ∀ (l : List UInt8) (c : UInt8), wc c = true → b0a (c :: l) = (c :: l.takeWhile wc) :: b0a (l.dropWhile wc)
 | [], c, h => by
  obtain ⟨h1, h2⟩ := l1j h
  simp [b0a, h1, h2, t0x]
 | d :: l, c, h => by
  obtain ⟨h1, h2⟩ := l1j h
  have e : b0a (c :: d :: l) = t0x c (d :: l) (b0a (d :: l)) := by rw [b0a, h1, h2]; simp
  rw [e]
  cases hd : wc d with
  | true =>
   rw [o0n l d hd]
   simp [t0x, hd]
  | false =>
   have hw : (d :: l).takeWhile wc = [] := by simp [hd]
   have hw2 : (d :: l).dropWhile wc = d :: l := by simp [hd]
   rw [hw, hw2]
   unfold t0x
   cases hh : b0a (d :: l) with
   | nil => rfl
   | cons w ws => simp [hd]
def f0r (l : List UInt8) : Nat := (l.takeWhile wc).length
theorem g1x (l : List UInt8) : f0r l ≤ l.length := by
 unfold f0r; exact (List.takeWhile_prefix wc).length_le
theorem c1p {c : UInt8} (h : wc c = true) (l : List UInt8) : 1 ≤ f0r (c :: l) := by simp [f0r, h]
theorem s0u : ∀ l : List UInt8, l.take (f0r l) = l.takeWhile wc
 | [] => rfl
 | c :: l => by
  unfold f0r
  cases h : wc c with
  | true => have := s0u l; unfold f0r at this; simp [h, this]
  | false => simp [h]
theorem u0f : ∀ l : List UInt8, l.drop (f0r l) = l.dropWhile wc
 | [] => rfl
 | c :: l => by
  unfold f0r
  cases h : wc c with
  | true => have := u0f l; unfold f0r at this; simp [h, this]
  | false => simp [h]
def sepC : List UInt8 := [32, 9, 44, 91, 93]
theorem m1g (c : UInt8) : sepC.contains c = !wc c := by
 unfold sepC wc h0f ownC
 rw [List.contains_eq_any_beq]
 simp only [List.any_cons, List.any_nil, Bool.or_false, Bool.not_not]
 simp [Bool.or_assoc]
theorem q0t : ∀ l : List UInt8, (Lib.indexAny l sepC = -1 ∧ f0r l = l.length) ∨ (Lib.indexAny l sepC = (f0r l : Nat) ∧ f0r l < l.length)
 | [] => .inl ⟨rfl, rfl⟩
 | c :: l => by
  have ih := q0t l
  unfold Lib.indexAny
  rw [m1g]
  cases h : wc c with
  | false => right; simp [f0r, h]
  | true =>
   have e : f0r (c :: l) = f0r l + 1 := by simp [f0r, h]
   rw [e]
   rcases ih with ⟨h1, h2⟩ | ⟨h1, h2⟩
   ·left; simp [h1, h2]
   ·right
    rw [h1]
    have : ¬ ((f0r l : Nat) : Int) = -1 := by omega
    simp [this, h2]
theorem l0p {l : List UInt8} {i : Nat} {c : UInt8} (h : l[i]? = some c) : l.drop i = c :: l.drop (i + 1) := by
 obtain ⟨hi, rfl⟩ := List.getElem?_eq_some_iff.1 h
 exact List.drop_eq_getElem_cons hi
theorem v0a {l : List UInt8} {i : Nat} {c : UInt8} (h : l[i]? = some c) (hb : h0f c = true) {acc : List (List UInt8)} (ha : acc ++ b0a (l.drop i) = b0a l) : acc ++ b0a (l.drop (i + 1)) = b0a l := by
 rw [l0p h, s0o hb] at ha; exact ha
theorem b1w {l : List UInt8} {i : Nat} {c : UInt8} (h : l[i]? = some c) (hb : h0f c = false) (ho : ownC c = true) {acc : List (List UInt8)} (ha : acc ++ b0a (l.drop i) = b0a l) : (acc ++ [[c]]) ++ b0a (l.drop (i + 1)) = b0a l := by
 rw [l0p h, y0q hb ho] at ha; simpa using ha
theorem y0p {l : List UInt8} {i : Nat} {c : UInt8} (h : l[i]? = some c) (hw : wc c = true) {acc : List (List UInt8)} (ha : acc ++ b0a (l.drop i) = b0a l) : (acc ++ [(l.drop i).take (f0r (l.drop i))]) ++ b0a (l.drop (i + f0r (l.drop i))) = b0a l := by
 have e : l.drop (i + f0r (l.drop i)) = (l.drop i).drop (f0r (l.drop i)) := by rw [List.drop_drop]
 rw [e, u0f, s0u]
 have h2 := l0p h
 rw [h2] at ha ⊢
 rw [o0n _ _ hw] at ha
 simpa [hw] using ha
theorem q0h : ∀ l : List UInt8, (b0a l).length ≤ l.length
 | [] => Nat.le_refl _
 | c :: l => by
  have ih := q0h l
  unfold b0a
  split
  ·simp; omega
  ·split
   ·simp; omega
   ·unfold t0x
    split
    ·rename_i h; rw [h] at ih; split <;> simp at ih ⊢ <;> omega
    ·simp; omega
theorem b1x {l : List UInt8} {i : Nat} {acc : List (List UInt8)} (ha : acc ++ b0a (l.drop i) = b0a l) : acc.length ≤ l.length := by
 have h1 := q0h l
 rw [← ha] at h1
 simp at h1; omega
end
section
open Go.RowKit
abbrev AS := List (List UInt8) × Bool
structure Ins where
 op : Int
 d : Int
 n : Int
 m : Int
 imm : Int
 kind : Int
def Ins.none : Ins := ⟨0, 0, 0, 0, 0, 0⟩
def a0q (s : AS) : List UInt8 × AS := match s.1 with | [] => ([], ([], true)) | w :: ws => (w, (ws, s.2))
def badA (s : AS) (b : Bool) : AS := (s.1, s.2 || b)
def a0d (s : AS) (t : List UInt8) : AS := badA (a0q s).2 (decide (¬ (a0q s).1 = t))
def mayA (s : AS) (t : List UInt8) : Bool × AS := match s.1 with | [] => (false, s) | w :: ws => if w = t then (true, (ws, s.2)) else (false, s)
def e0h (s : AS) (x : List UInt8) : Int × AS := if (b0h x).2 = 0 ∧ (b0h x).1 ≤ 1099511627776 then (((b0h x).1 : Nat), s) else (0, badA s true)
def regA (s : AS) : Int × AS := match regN (ba (a0q s).1) with | some j => ((j : Nat), (a0q s).2) | none => (0, badA (a0q s).2 true)
def cutA (p x : List UInt8) : List UInt8 × Bool := if p.isPrefixOf x then (x.drop p.length, true) else (x, false)
def c0o (s : AS) : Int × AS := e0h (badA (a0q s).2 (!(cutA [35] (a0q s).1).2)) (cutA [35] (a0q s).1).1
def b0f (s : AS) : Int × AS :=
 if (cutA [46, 43] (a0q s).1).2 then e0h (a0q s).2 (cutA [46, 43] (a0q s).1).1
 else
  let y := e0h (badA (a0q s).2 (!(cutA [46, 45] (a0q s).1).2)) (cutA [46, 45] (a0q s).1).1
  (-y.1, y.2)
def d0x (s : AS) : (Int × Int) × AS :=
 let x := regA (a0d s [91])
 let m := mayA x.2 [44]
 if m.1 then ((x.1, (c0o m.2).1), a0d (c0o m.2).2 [93]) else ((x.1, 0), a0d m.2 [93])
def e0a (s : AS) (most : Nat) (name : Nat → List UInt8) : Int × AS :=
 if (a0q s).1 = [] then (0, badA (a0q s).2 true)
 else match (List.range most).find? (fun k => decide (name k = (a0q s).1)) with | some k => ((k : Nat), (a0q s).2) | none => (0, badA (a0q s).2 true)
def g0g (s : AS) (op : Int) : Ins × AS :=
 let x := regA s
 let y := d0x (a0d x.2 [44])
 (⟨op, x.1, y.1.1, 0, y.1.2, 0⟩, y.2)
def moveA (s : AS) : Ins × AS :=
 let x := regA s
 let y := c0o (a0d x.2 [44])
 let m := mayA y.2 [44]
 if m.1 then
  let z := c0o (a0d m.2 [76, 83, 76])
  (⟨6, x.1, 0, 0, y.1, z.1 / 16⟩, badA z.2 (decide (¬ z.1 % 16 = 0)))
 else (⟨6, x.1, 0, 0, y.1, 0⟩, m.2)
def hashA (s : AS) : Bool := match s.1 with | [] => false | w :: _ => [35].isPrefixOf w
def addA (s : AS) : Ins × AS :=
 let x := regA s
 let y := regA (a0d x.2 [44])
 let s2 := a0d y.2 [44]
 if hashA s2 then (⟨7, x.1, y.1, 0, (c0o s2).1, 0⟩, (c0o s2).2) else (⟨8, x.1, y.1, (regA s2).1, 0, 0⟩, (regA s2).2)
def h0c (s : AS) (op : Int) : Ins × AS :=
 let x := regA s
 let y := regA (a0d x.2 [44])
 let z := regA (a0d y.2 [44])
 (⟨op, x.1, y.1, z.1, 0, 0⟩, z.2)
def v0c (s : AS) (op : Int) : Ins × AS :=
 let x := regA s
 let y := b0f (a0d x.2 [44])
 (⟨op, x.1, 0, 0, y.1, 0⟩, y.2)
def k0q (k : Nat) : List UInt8 := g0u k
def barN (k : Nat) : List UInt8 := barL k
def sysN (k : Nat) : List UInt8 := sysL k
def p0m (s : AS) : Ins × AS :=
 let x := e0a s 8 k0q
 if x.1 % 4 = 0 then (⟨21, 31, 0, 0, 0, x.1⟩, x.2)
 else
  let y := regA (a0d x.2 [44])
  (⟨21, y.1, 0, 0, 0, x.1⟩, y.2)
def cmpA (s : AS) : Ins × AS :=
 let x := regA s
 let y := regA (a0d x.2 [44])
 (⟨13, 31, x.1, y.1, 0, 0⟩, y.2)
def mrsA (s : AS) : Ins × AS :=
 let x := regA s
 let y := e0a (a0d x.2 [44]) 3 sysN
 (⟨23, x.1, 0, 0, 0, y.1⟩, y.2)
def bodyA (x : List UInt8) (s : AS) : Ins × AS :=
 if x = [78, 79, 80] then (⟨1, 0, 0, 0, 0, 0⟩, s)
 else if x = [73, 83, 66] then (⟨20, 0, 0, 0, 0, 0⟩, s)
 else if x = [69, 82, 69, 84] then (⟨22, 0, 0, 0, 0, 0⟩, s)
 else if x = [76, 68, 82] then g0g s 2
 else if x = [83, 84, 82] then g0g s 3
 else if x = [76, 68, 65, 82] then g0g s 4
 else if x = [83, 84, 76, 82] then g0g s 5
 else if x = [77, 79, 86] then moveA s
 else if x = [77, 79, 86, 90] then moveA s
 else if x = [65, 68, 68] then addA s
 else if x = [83, 85, 66] then h0c s 9
 else if x = [65, 78, 68] then h0c s 10
 else if x = [79, 82, 82] then h0c s 11
 else if x = [69, 79, 82] then h0c s 12
 else if x = [83, 85, 66, 83] then h0c s 13
 else if x = [67, 77, 80] then cmpA s
 else if x = [66] then (⟨14, 0, 0, 0, (b0f s).1, 0⟩, (b0f s).2)
 else if x = [66, 46, 69, 81] then (⟨17, 0, 0, 0, (b0f s).1, 0⟩, (b0f s).2)
 else if x = [66, 46, 78, 69] then (⟨17, 0, 0, 0, (b0f s).1, 1⟩, (b0f s).2)
 else if x = [67, 66, 90] then v0c s 15
 else if x = [67, 66, 78, 90] then v0c s 16
 else if x = [68, 77, 66] then (⟨18, 0, 0, 0, 0, (e0a s 16 barN).1⟩, (e0a s 16 barN).2)
 else if x = [68, 83, 66] then (⟨19, 0, 0, 0, 0, (e0a s 16 barN).1⟩, (e0a s 16 barN).2)
 else if x = [84, 76, 66, 73] then p0m s
 else if x = [77, 82, 83] then mrsA s
 else (Ins.none, badA s true)
def e0l (s : AS) : Ins × AS := bodyA (a0q s).1 (a0q s).2
def f0o (l : List UInt8) : Ins × Int :=
 let r := e0l (b0a l, false)
 if r.2.2 = false ∧ r.2.1 = [] ∧ b0e r.1.op r.1.d r.1.n r.1.m r.1.imm r.1.kind then (r.1, 0) else (Ins.none, 40)
end
section
open Go.RowKit
theorem p0w {s : ByteArray} (h : 16384 < s.size) : f0i s = (2, 0) := by unfold f0i; rw [if_pos h]
theorem a1y {s : ByteArray} {k : Nat} (h : ¬ 16384 < s.size) (hk : k < s.size) (hs : scan (badB s) s.size k = scan (badB s) s.size 0) (hb : badB s k = true) : f0i s = (100, (k : Int)) := by
 unfold f0i; rw [if_neg h, ← hs, h0h hk hb, if_pos hk]
theorem f1z {s : ByteArray} (h : ¬ 16384 < s.size) (hs : scan (badB s) s.size s.size = scan (badB s) s.size 0) : f0i s = (0, 0) := by
 unfold f0i; rw [if_neg h, ← hs, e0w (by omega), if_neg (by omega)]
theorem o1j {s : ByteArray} {k : Nat} (h : k < s.size) : badB s k = !okB (s[k].toNat : Int) := by unfold badB; rw [l0e h]
theorem u0n (s : ByteArray) (w : World) (hs : s.size ≤ maxLen) :
  Calls Tryz.prog 55 #[.string s] w fun e w' => e = .returned (.agg #[.int .i64 (f0i s).1, .int .i64 (f0i s).2]) ∧ Below w.heap.size w w' := by
 unfold maxLen at hs
 have HN := h_ (fun (a b : Int) => show (w.alloc (.cells #[.int .i64 a, .int .i64 b] 41)).heap[w.heap.size]? = some (.cells #[.int .i64 a, .int .i64 b] 41 (0, 0)) from heap_alloc_new w _)
 have HE := h_ (fun (p : Int × Int) (h : f0i s = p) => show Ending.returned (.agg #[.int .i64 p.1, .int .i64 p.2]) = Ending.returned (.agg #[.int .i64 (f0i s).1, .int .i64 (f0i s).2]) from by rw [h])
 by_cases hl : 16384 < s.size
 ·have hl' : (16384 : Int) < s.size := by omega
  have HZ := h_ (p0w hl)
  go_enter Tryz.func55, Tryz.ntmps55
  go_wp2
  exact bodyPost_ret (results_cell_row rfl _ _ w.heap.size 41 #[.int .i64 2, .int .i64 0] (0, 0) _ rfl (HN.out 2 0) Tryz.underlying41 rfl (by kernel_rfl)) rfl ⟨HE.out _ HZ.out, bl_ (Below.refl _ _) _⟩
 ·have hl' : (s.size : Int) ≤ 16384 := by omega
  have HL := h_ hl
  clear hl
  go_enter Tryz.func55, Tryz.ntmps55
  go_wp2_with fail
  go_loop [11] (fun i => ∃ k : Nat, k ≤ s.size ∧ i = .int .i64 k ∧ scan (badB s) s.size k = scan (badB s) s.size 0) (fun i => s.size - (intOf i).toNat)
  case atStart => exact ⟨0, by omega, rfl, rfl⟩
  case round =>
   obtain ⟨k, hk, rfl, hsc⟩ := hrel
   have HS := h_ hsc
   clear hsc
   by_cases hlt : k < s.size
   ·have HB := h_ (o1j hlt)
    have HBad := h_ (fun h => a1y HL.out hlt HS.out h)
    have HMiss := h_ (fun (h : badB s k = false) => (f0f (to := s.size) hlt h).symm.trans HS.out)
    have hbd := o1i s[k]
    obtain ⟨hb0, hb1⟩ := hbd
    by_cases hok : okB (s[k].toNat : Int) = true
    ·have HN2 := h_ (HMiss.out (by rw [HB.out, hok]; rfl))
     have HOK := h_ (show okB (s[k].toNat : Int) = ((s[k].toNat : Int) == 10 || c0p (s[k].toNat : Int) || (decide (32 ≤ (s[k].toNat : Int)) && decide ((s[k].toNat : Int) ≤ 126))) from rfl)
     cases e10 : ((s[k].toNat : Int) == 10) <;> cases eb : c0p (s[k].toNat : Int)
     ·have n10 : ((s[k].toNat : Int) != 10) = true := by simp only [bne, e10, Bool.not_false]
      have h32 : 32 ≤ (s[k].toNat : Int) ∧ (s[k].toNat : Int) ≤ 126 := by have := HOK.out; rw [hok, e10, eb] at this; simpa using this.symm
      obtain ⟨h32a, h32b⟩ := h32
      clear hok
      go_wp2_with (go_at_call 84; refine (b0w _ _).mono ?_; rintro e w' ⟨rfl, rfl⟩)
      go_round
      case rel => exact ⟨k + 1, by omega, by go_num, HN2.out⟩
      case measure => simp [intOf]; omega
     all_goals
      first | have n10 : ((s[k].toNat : Int) != 10) = true := by simp only [bne, e10, Bool.not_false] | have n10 : ((s[k].toNat : Int) != 10) = false := by simp only [bne, e10, Bool.not_true]
      clear hok
      go_wp2_with (go_at_call 84; refine (b0w _ _).mono ?_; rintro e w' ⟨rfl, rfl⟩)
      go_round
      case rel => exact ⟨k + 1, by omega, by go_num, HN2.out⟩
      case measure => simp [intOf]; omega
    ·have hok' : okB (s[k].toNat : Int) = false := by simpa using hok
     have HZ := h_ (HBad.out (by rw [HB.out, hok']; rfl))
     have h3 : ((s[k].toNat : Int) == 10) = false ∧ c0p (s[k].toNat : Int) = false ∧ ((s[k].toNat : Int) < 32 ∨ 126 < (s[k].toNat : Int)) := by
      unfold okB at hok'
      simp only [Bool.or_eq_false_iff, Bool.and_eq_false_iff, decide_eq_false_iff_not] at hok'
      exact ⟨hok'.1.1, hok'.1.2, by omega⟩
     obtain ⟨e10, eb, h4⟩ := h3
     have n10 : ((s[k].toNat : Int) != 10) = true := by simp only [bne, e10, Bool.not_false]
     clear hok hok'
     by_cases h5 : (s[k].toNat : Int) < 32
     all_goals
      first | have h6 : (s[k].toNat : Int) < 32 := h5 | have h6 : 126 < (s[k].toNat : Int) := by omega
      clear h4
      go_wp2_with (go_at_call 84; refine (b0w _ _).mono ?_; rintro e w' ⟨rfl, rfl⟩)
      exact bodyPost_ret (results_cell_row rfl _ _ w.heap.size 41 #[.int .i64 100, .int .i64 k] (0, 0) _ rfl (HN.out 100 k) Tryz.underlying41 rfl (by kernel_rfl)) rfl ⟨HE.out _ HZ.out, bl_ (Below.refl _ _) _⟩
   ·obtain rfl : k = s.size := by omega
    have HZ := h_ (f1z HL.out HS.out)
    go_wp2
    exact bodyPost_ret (results_cell_row rfl _ _ w.heap.size 41 #[.int .i64 0, .int .i64 0] (0, 0) _ rfl (HN.out 0 0) Tryz.underlying41 rfl (by kernel_rfl)) rfl ⟨HE.out _ HZ.out, bl_ (Below.refl _ _) _⟩
end
section
open Go.RowKit
end
section
open Go.RowKit
theorem x0d (s : ByteArray) (f t : Nat) (w : World) (hs : s.size ≤ 140737488351232) (hft : f ≤ t) (hts : t ≤ s.size) :
  Calls Tryz.prog 85 #[.string s, .int .i64 f, .int .i64 t] w fun e w' => e = .returned (.agg #[.string (s.extract (c0j s f t) (c0q s f t)), .int .i64 (c0j s f t : Nat)]) ∧ Below w.heap.size w w' := by
 go_enter Tryz.func85, Tryz.ntmps85
 go_wp2_with fail
 go_loop [2, 7] (fun v i => ∃ k : Nat, f ≤ k ∧ k ≤ t ∧ i = .int .i64 k ∧ v = .int .i64 t ∧ scan (k0e s) (t - 1) k = scan (k0e s) (t - 1) f) (fun _ i => t - (intOf i).toNat)
 case atStart => exact ⟨f, Nat.le_refl _, hft, rfl, rfl, rfl⟩
 case round =>
  obtain ⟨k, hfk, hkt, rfl, rfl, hsc⟩ := hrel
  have HS := h_ hsc
  clear hsc
  by_cases hlt : k + 1 < t
  ·have hk1 : k + 1 < s.size := by omega
   have hk0 : k < s.size := by omega
   have hlt' : (k : Int) + 1 < t := by omega
   have HQ0 := h_ (l0e hk0)
   have HQ1 := h_ (l0e hk1)
   cases h0 : ((s[k].toNat : Int) == 47) <;> cases h1 : ((s[k + 1].toNat : Int) == 47)
   case true.true =>
    have HC := h_ (show cutF s f t = k from by
     have e : scan (k0e s) (t - 1) f = k := by rw [← HS.out]; exact h0h (by omega) (by unfold k0e; rw [HQ0.out, HQ1.out, h0, h1]; rfl)
     unfold cutF; rw [e, if_pos hlt])
    clear HS
    have HFB := h_ (show f ≤ k from by rw [← HC.out]; exact (m0w s f t hft).1)
    have HH0 := h_ (show scan (j0z s) k f = c0j s f t from by unfold c0j; rw [HC.out])
    have ht1s : k ≤ s.size := by have := (m0w s f t hft).2; rw [HC.out] at this; omega
    go_wp2_with fail
    have hfk : f ≤ k := HFB.out
    go_loop [1] (fun v => ∃ a : Nat, f ≤ a ∧ a ≤ k ∧ v = .int .i64 a ∧ scan (j0z s) k a = c0j s f t) (fun v => k - (intOf v).toNat)
    case atStart => exact ⟨f, Nat.le_refl _, hfk, rfl, HH0.out⟩
    case round =>
     obtain ⟨a, hfa, hat, rfl, hsc⟩ := hrel
     have HS := h_ hsc
     clear hsc
     by_cases hlt : a < k
     ·have has : a < s.size := by omega
      have HQ := h_ (l0e has)
      cases hb : c0p (s[a].toNat : Int)
      ·have HA := h_ (show c0j s f t = a from by rw [← HS.out]; exact h0h hlt (by unfold j0z; rw [HQ.out, hb]; rfl))
       have HT0 := h_ (show back (fun k => c0p (bt s k)) a k = c0q s f t from by unfold c0q; rw [HA.out, HC.out])
       have HAB := h_ hat
       clear HS
       go_wp2_with (go_at_call 84; refine (b0w _ _).mono ?_; rintro e w' ⟨rfl, rfl⟩)
       have hak : a ≤ k := HAB.out
       go_loop [2] (fun v => ∃ e : Nat, a ≤ e ∧ e ≤ k ∧ v = .int .i64 e ∧ back (fun k => c0p (bt s k)) a e = c0q s f t) (fun v => (intOf v).toNat)
       case atStart => exact ⟨k, hak, Nat.le_refl _, rfl, HT0.out⟩
       case round =>
        obtain ⟨e, hae, het, rfl, hbk⟩ := hrel
        have HK := h_ hbk
        clear hbk
        by_cases hlt : a < e
        ·obtain ⟨q, rfl⟩ : ∃ q, e = q + 1 := ⟨e - 1, by omega⟩
         have hqs : q < s.size := by omega
         have hlt' : (a : Int) < (q : Int) + 1 := by omega
         have HQ := h_ (l0e hqs)
         cases hb : c0p (s[q].toNat : Int)
         ·have HT := h_ (show c0q s f t = q + 1 from by rw [← HK.out]; exact q0c hlt (by simp only [Nat.add_sub_cancel]; rw [HQ.out]; exact hb))
          clear HK
          have HV := h_ (show Ending.returned (.agg #[.string (s.extract a (q + 1)), .int .i64 (a : Nat)]) = Ending.returned (.agg #[.string (s.extract (c0j s f t) (c0q s f t)), .int .i64 (c0j s f t : Nat)]) from by rw [HA.out, HT.out])
          have HN := h_ (show (w.alloc (.cells #[.string (s.extract a (q + 1)), .int .i64 (a : Nat)] 114)).heap[w.heap.size]? = some (.cells #[.string (s.extract a (q + 1)), .int .i64 (a : Nat)] 114 (0, 0)) from heap_alloc_new w _)
          go_wp2_with (go_at_call 84; refine (b0w _ _).mono ?_; rintro e w' ⟨rfl, rfl⟩)
          exact bodyPost_ret (results_cell_row rfl _ _ w.heap.size 114 #[.string (s.extract a (q + 1)), .int .i64 (a : Nat)] (0, 0) _ rfl HN.out Tryz.underlying114 rfl (by kernel_rfl)) rfl ⟨HV.out, bl_ (Below.refl _ _) _⟩
         ·have HK2 := h_ (show back (fun k => c0p (bt s k)) a q = c0q s f t from by rw [← HK.out]; exact (s0l hlt (by simp only [Nat.add_sub_cancel]; rw [HQ.out]; exact hb)).symm)
          clear HK
          go_wp2_with (go_at_call 84; refine (b0w _ _).mono ?_; rintro e w' ⟨rfl, rfl⟩)
          go_round
          case rel => exact ⟨q, by omega, by omega, by go_num, HK2.out⟩
          case measure => simp [intOf]
        ·obtain rfl : e = a := by omega
         have HT := h_ (show c0q s f t = e from by rw [← HK.out]; exact j0e (by omega))
         clear HK hlt
         have HV := h_ (show Ending.returned (.agg #[.string (ByteArray.empty), .int .i64 (e : Nat)]) = Ending.returned (.agg #[.string (s.extract (c0j s f t) (c0q s f t)), .int .i64 (c0j s f t : Nat)]) from by rw [HA.out, HT.out, show s.extract e e = ByteArray.empty by simp])
         have HN := h_ (show (w.alloc (.cells #[.string (ByteArray.empty), .int .i64 (e : Nat)] 114)).heap[w.heap.size]? = some (.cells #[.string (ByteArray.empty), .int .i64 (e : Nat)] 114 (0, 0)) from heap_alloc_new w _)
         go_wp2_with (go_at_call 84; refine (b0w _ _).mono ?_; rintro e w' ⟨rfl, rfl⟩)
         exact bodyPost_ret (results_cell_row rfl _ _ w.heap.size 114 #[.string (ByteArray.empty), .int .i64 (e : Nat)] (0, 0) _ rfl HN.out Tryz.underlying114 rfl (by kernel_rfl)) rfl ⟨HV.out, bl_ (Below.refl _ _) _⟩
      ·have HS2 := h_ (show scan (j0z s) k (a + 1) = c0j s f t from by rw [← HS.out]; exact (f0f hlt (by unfold j0z; rw [HQ.out, hb]; rfl)).symm)
       clear HS
       go_wp2_with (go_at_call 84; refine (b0w _ _).mono ?_; rintro e w' ⟨rfl, rfl⟩)
       go_round
       case rel => exact ⟨a + 1, by omega, by omega, by go_num, HS2.out⟩
       case measure => simp [intOf]; omega
     ·have hlt' : (k : Int) ≤ a := by omega
      have HA := h_ (show c0j s f t = a from by rw [← HS.out]; exact e0w (by omega))
      have HT0 := h_ (show back (fun k => c0p (bt s k)) a k = c0q s f t from by unfold c0q; rw [HA.out, HC.out])
      have HAB := h_ hat
      clear HS hlt
      go_wp2_with (go_at_call 84; refine (b0w _ _).mono ?_; rintro e w' ⟨rfl, rfl⟩)
      have hak : a ≤ k := HAB.out
      go_loop [2] (fun v => ∃ e : Nat, a ≤ e ∧ e ≤ k ∧ v = .int .i64 e ∧ back (fun k => c0p (bt s k)) a e = c0q s f t) (fun v => (intOf v).toNat)
      case atStart => exact ⟨k, hak, Nat.le_refl _, rfl, HT0.out⟩
      case round =>
       obtain ⟨e, hae, het, rfl, hbk⟩ := hrel
       have HK := h_ hbk
       clear hbk
       by_cases hlt : a < e
       ·exfalso; omega
       ·obtain rfl : e = a := by omega
        have HT := h_ (show c0q s f t = e from by rw [← HK.out]; exact j0e (by omega))
        clear HK hlt
        have HV := h_ (show Ending.returned (.agg #[.string (ByteArray.empty), .int .i64 (e : Nat)]) = Ending.returned (.agg #[.string (s.extract (c0j s f t) (c0q s f t)), .int .i64 (c0j s f t : Nat)]) from by rw [HA.out, HT.out, show s.extract e e = ByteArray.empty by simp])
        have HN := h_ (show (w.alloc (.cells #[.string (ByteArray.empty), .int .i64 (e : Nat)] 114)).heap[w.heap.size]? = some (.cells #[.string (ByteArray.empty), .int .i64 (e : Nat)] 114 (0, 0)) from heap_alloc_new w _)
        go_wp2_with (go_at_call 84; refine (b0w _ _).mono ?_; rintro e w' ⟨rfl, rfl⟩)
        exact bodyPost_ret (results_cell_row rfl _ _ w.heap.size 114 #[.string (ByteArray.empty), .int .i64 (e : Nat)] (0, 0) _ rfl HN.out Tryz.underlying114 rfl (by kernel_rfl)) rfl ⟨HV.out, bl_ (Below.refl _ _) _⟩
   all_goals
    have HS2 := h_ (show scan (k0e s) (t - 1) (k + 1) = scan (k0e s) (t - 1) f from by rw [← HS.out]; exact (f0f (by omega) (by unfold k0e; rw [HQ0.out, HQ1.out, h0, h1]; rfl)).symm)
    clear HS
    go_wp2_with fail
    go_round
    case rel => exact ⟨k + 1, by omega, by omega, by go_num, rfl, HS2.out⟩
    case measure => simp [intOf]; omega
  ·have HC := h_ (show cutF s f t = t from by
    have e : scan (k0e s) (t - 1) f = k := by rw [← HS.out]; exact e0w (by omega)
    unfold cutF; rw [e, if_neg hlt])
   have hlt' : (t : Int) ≤ (k : Int) + 1 := by omega
   clear HS hlt
   have HFB := h_ (show f ≤ t from by rw [← HC.out]; exact (m0w s f t hft).1)
   have HH0 := h_ (show scan (j0z s) t f = c0j s f t from by unfold c0j; rw [HC.out])
   have ht1s : t ≤ s.size := by have := (m0w s f t hft).2; rw [HC.out] at this; omega
   go_wp2_with fail
   have hft : f ≤ t := HFB.out
   go_loop [1] (fun v => ∃ a : Nat, f ≤ a ∧ a ≤ t ∧ v = .int .i64 a ∧ scan (j0z s) t a = c0j s f t) (fun v => t - (intOf v).toNat)
   case atStart => exact ⟨f, Nat.le_refl _, hft, rfl, HH0.out⟩
   case round =>
    obtain ⟨a, hfa, hat, rfl, hsc⟩ := hrel
    have HS := h_ hsc
    clear hsc
    by_cases hlt : a < t
    ·have has : a < s.size := by omega
     have HQ := h_ (l0e has)
     cases hb : c0p (s[a].toNat : Int)
     ·have HA := h_ (show c0j s f t = a from by rw [← HS.out]; exact h0h hlt (by unfold j0z; rw [HQ.out, hb]; rfl))
      have HT0 := h_ (show back (fun k => c0p (bt s k)) a t = c0q s f t from by unfold c0q; rw [HA.out, HC.out])
      have HAB := h_ hat
      clear HS
      go_wp2_with (go_at_call 84; refine (b0w _ _).mono ?_; rintro e w' ⟨rfl, rfl⟩)
      have hat : a ≤ t := HAB.out
      go_loop [2] (fun v => ∃ e : Nat, a ≤ e ∧ e ≤ t ∧ v = .int .i64 e ∧ back (fun k => c0p (bt s k)) a e = c0q s f t) (fun v => (intOf v).toNat)
      case atStart => exact ⟨t, hat, Nat.le_refl _, rfl, HT0.out⟩
      case round =>
       obtain ⟨e, hae, het, rfl, hbk⟩ := hrel
       have HK := h_ hbk
       clear hbk
       by_cases hlt : a < e
       ·obtain ⟨q, rfl⟩ : ∃ q, e = q + 1 := ⟨e - 1, by omega⟩
        have hqs : q < s.size := by omega
        have hlt' : (a : Int) < (q : Int) + 1 := by omega
        have HQ := h_ (l0e hqs)
        cases hb : c0p (s[q].toNat : Int)
        ·have HT := h_ (show c0q s f t = q + 1 from by rw [← HK.out]; exact q0c hlt (by simp only [Nat.add_sub_cancel]; rw [HQ.out]; exact hb))
         clear HK
         have HV := h_ (show Ending.returned (.agg #[.string (s.extract a (q + 1)), .int .i64 (a : Nat)]) = Ending.returned (.agg #[.string (s.extract (c0j s f t) (c0q s f t)), .int .i64 (c0j s f t : Nat)]) from by rw [HA.out, HT.out])
         have HN := h_ (show (w.alloc (.cells #[.string (s.extract a (q + 1)), .int .i64 (a : Nat)] 114)).heap[w.heap.size]? = some (.cells #[.string (s.extract a (q + 1)), .int .i64 (a : Nat)] 114 (0, 0)) from heap_alloc_new w _)
         go_wp2_with (go_at_call 84; refine (b0w _ _).mono ?_; rintro e w' ⟨rfl, rfl⟩)
         exact bodyPost_ret (results_cell_row rfl _ _ w.heap.size 114 #[.string (s.extract a (q + 1)), .int .i64 (a : Nat)] (0, 0) _ rfl HN.out Tryz.underlying114 rfl (by kernel_rfl)) rfl ⟨HV.out, bl_ (Below.refl _ _) _⟩
        ·have HK2 := h_ (show back (fun k => c0p (bt s k)) a q = c0q s f t from by rw [← HK.out]; exact (s0l hlt (by simp only [Nat.add_sub_cancel]; rw [HQ.out]; exact hb)).symm)
         clear HK
         go_wp2_with (go_at_call 84; refine (b0w _ _).mono ?_; rintro e w' ⟨rfl, rfl⟩)
         go_round
         case rel => exact ⟨q, by omega, by omega, by go_num, HK2.out⟩
         case measure => simp [intOf]
       ·obtain rfl : e = a := by omega
        have HT := h_ (show c0q s f t = e from by rw [← HK.out]; exact j0e (by omega))
        clear HK hlt
        have HV := h_ (show Ending.returned (.agg #[.string (ByteArray.empty), .int .i64 (e : Nat)]) = Ending.returned (.agg #[.string (s.extract (c0j s f t) (c0q s f t)), .int .i64 (c0j s f t : Nat)]) from by rw [HA.out, HT.out, show s.extract e e = ByteArray.empty by simp])
        have HN := h_ (show (w.alloc (.cells #[.string (ByteArray.empty), .int .i64 (e : Nat)] 114)).heap[w.heap.size]? = some (.cells #[.string (ByteArray.empty), .int .i64 (e : Nat)] 114 (0, 0)) from heap_alloc_new w _)
        go_wp2_with (go_at_call 84; refine (b0w _ _).mono ?_; rintro e w' ⟨rfl, rfl⟩)
        exact bodyPost_ret (results_cell_row rfl _ _ w.heap.size 114 #[.string (ByteArray.empty), .int .i64 (e : Nat)] (0, 0) _ rfl HN.out Tryz.underlying114 rfl (by kernel_rfl)) rfl ⟨HV.out, bl_ (Below.refl _ _) _⟩
     ·have HS2 := h_ (show scan (j0z s) t (a + 1) = c0j s f t from by rw [← HS.out]; exact (f0f hlt (by unfold j0z; rw [HQ.out, hb]; rfl)).symm)
      clear HS
      go_wp2_with (go_at_call 84; refine (b0w _ _).mono ?_; rintro e w' ⟨rfl, rfl⟩)
      go_round
      case rel => exact ⟨a + 1, by omega, by omega, by go_num, HS2.out⟩
      case measure => simp [intOf]; omega
    ·have hlt' : (t : Int) ≤ a := by omega
     have HA := h_ (show c0j s f t = a from by rw [← HS.out]; exact e0w (by omega))
     have HT0 := h_ (show back (fun k => c0p (bt s k)) a t = c0q s f t from by unfold c0q; rw [HA.out, HC.out])
     have HAB := h_ hat
     clear HS hlt
     go_wp2_with (go_at_call 84; refine (b0w _ _).mono ?_; rintro e w' ⟨rfl, rfl⟩)
     have hat : a ≤ t := HAB.out
     go_loop [2] (fun v => ∃ e : Nat, a ≤ e ∧ e ≤ t ∧ v = .int .i64 e ∧ back (fun k => c0p (bt s k)) a e = c0q s f t) (fun v => (intOf v).toNat)
     case atStart => exact ⟨t, hat, Nat.le_refl _, rfl, HT0.out⟩
     case round =>
      obtain ⟨e, hae, het, rfl, hbk⟩ := hrel
      have HK := h_ hbk
      clear hbk
      by_cases hlt : a < e
      ·exfalso; omega
      ·obtain rfl : e = a := by omega
       have HT := h_ (show c0q s f t = e from by rw [← HK.out]; exact j0e (by omega))
       clear HK hlt
       have HV := h_ (show Ending.returned (.agg #[.string (ByteArray.empty), .int .i64 (e : Nat)]) = Ending.returned (.agg #[.string (s.extract (c0j s f t) (c0q s f t)), .int .i64 (c0j s f t : Nat)]) from by rw [HA.out, HT.out, show s.extract e e = ByteArray.empty by simp])
       have HN := h_ (show (w.alloc (.cells #[.string (ByteArray.empty), .int .i64 (e : Nat)] 114)).heap[w.heap.size]? = some (.cells #[.string (ByteArray.empty), .int .i64 (e : Nat)] 114 (0, 0)) from heap_alloc_new w _)
       go_wp2_with (go_at_call 84; refine (b0w _ _).mono ?_; rintro e w' ⟨rfl, rfl⟩)
       exact bodyPost_ret (results_cell_row rfl _ _ w.heap.size 114 #[.string (ByteArray.empty), .int .i64 (e : Nat)] (0, 0) _ rfl HN.out Tryz.underlying114 rfl (by kernel_rfl)) rfl ⟨HV.out, bl_ (Below.refl _ _) _⟩
end
end Go.Proofs.YtmnojnopejhebaaGreat
