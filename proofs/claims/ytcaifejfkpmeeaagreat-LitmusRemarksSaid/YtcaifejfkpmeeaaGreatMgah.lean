/- Reading a condition: one part. -/
import Derived.Test.YtcaifejfkpmeeaaGreatMgag
namespace Go.Proofs.YtcaifejfkpmeeaaGreat
open Go.RowKit
set_option linter.unusedVariables false
set_option linter.unusedSimpArgs false

abbrev cells6 (k c r : Int) (a v : Int) (sl : Value) : List Value := [.int .i64 k, .int .i64 c, .int .i64 r, .int .u64 a, .int .u64 v, sl]
theorem CT.At.cells {w : World} {S : Nat → Prop} {t : CT} {cs : List Value} (h : CT.At w S t cs) : ∃ (k c r : Int) (a v : Int) (p : Option Addr) (l cap : Nat), cs = cells6 k c r a v (.slice p l cap) := by
  obtain ⟨k, c, r, a, v, args⟩ := t
  unfold CT.At at h
  obtain ⟨p, cap, h1, _⟩ := h
  exact ⟨k, c, r, a, v, p, _, cap, h1⟩
theorem at_leaf (w : World) (S : Nat → Prop) (k c r : Int) (a v : Nat) (ha : a < 18446744073709551616) (hv : v < 18446744073709551616 ∧ I64 k ∧ I64 c ∧ I64 r) : CT.At w S (.mk k c r a v []) (cells6 k c r a v (.slice none 0 0)) := by
  unfold CT.At
  exact ⟨none, 0, rfl, Nat.le_refl _, by decide, ha, hv, by unfold CT.Row; trivial⟩
theorem row_one {w : World} {S : Nat → Prop} {t : CT} {es : List Value} {g off i : Nat} (hs : S g) (hl : es.length = 6) (hc : ∀ j, j < 6 → w.cell? ⟨g, off + i * 6 + j, none⟩ = es[j]?) (h : CT.At w S t es) {ts : List CT} (hr : CT.Row w S (some ⟨g, off, none⟩) (i + 1) ts) : CT.Row w S (some ⟨g, off, none⟩) i (t :: ts) := by
  unfold CT.Row
  exact ⟨⟨g, off, es, rfl, hs, hl, hc, h⟩, hr⟩
theorem row_nil (w : World) (S : Nat → Prop) (p : Option Addr) (i : Nat) : CT.Row w S p i [] := by unfold CT.Row; trivial
theorem at_one {w : World} {S : Nat → Prop} {t : CT} {es : List Value} {g : Nat} (k : Int) (hk : I64 k) (hs : S g) (hl : es.length = 6) (hb : Blk w 29 g es) (h : CT.At w S t es) : CT.At w S (.mk k 0 0 0 0 [t]) (cells6 k 0 0 0 0 (.slice (some ⟨g, 0, none⟩) 1 1)) := by
  unfold CT.At
  refine ⟨some ⟨g, 0, none⟩, 1, rfl, Nat.le_refl _, by decide, by decide, ⟨by decide, hk, by decide, by decide⟩, row_one hs hl (fun j hj => ?_) h (row_nil _ _ _ _)⟩
  rw [hb.cell]; simp
theorem at_two {w : World} {S : Nat → Prop} {t u : CT} {es fs : List Value} {g : Nat} (k : Int) (hk : I64 k) (hs : S g) (hl : es.length = 6) (hl2 : fs.length = 6) (hb : Blk w 29 g (es ++ fs)) (h : CT.At w S t es) (h2 : CT.At w S u fs) : CT.At w S (.mk k 0 0 0 0 [t, u]) (cells6 k 0 0 0 0 (.slice (some ⟨g, 0, none⟩) 2 2)) := by
  unfold CT.At
  refine ⟨some ⟨g, 0, none⟩, 2, rfl, Nat.le_refl _, by decide, by decide, ⟨by decide, hk, by decide, by decide⟩, row_one hs hl (fun j hj => ?_) h (row_one hs hl2 (fun j hj => ?_) h2 (row_nil _ _ _ _))⟩
  · rw [hb.cell, List.getElem?_append_left (by omega)]; simp
  · rw [hb.cell, List.getElem?_append_right (by omega)]; congr 1; omega
theorem numberR_lt (tk : List Tk) (s : RS) : (numberR tk s).1 < 18446744073709551616 := by
  unfold numberR
  split
  · exact parseL_lt _
  · show (0 : Nat) < _; decide
theorem valueR_lt (tk : List Tk) (s : RS) : (valueR tk s).1 < 18446744073709551616 := numberR_lt tk _

/-- What one of the reading functions does. -/
def POK (tk : List Tk) (f : Nat) (id : FuncId) (F : PF) (b : Nat) : Prop :=
  ∀ (w : World) (r n : Nat) (p : Option Addr) (c x : Nat) (s : RS) (m : Nat), CAt w r n p c tk x s m → Few 65 s m → 4 * (n - s.k) + b ≤ f →
    Calls Tryz.prog id #[.pointer (some ⟨x, 0, none⟩)] w fun e w' => ∃ cs, e = .returned (.agg cs.toArray) ∧ CT.At w' (fun g => w.heap.size ≤ g) (parseF tk f F s m).1 cs ∧ CAt w' r n p c tk x (parseF tk f F s m).2.1 (parseF tk f F s m).2.2 ∧ G2 r x w w'
/-- A state on the way: the result's room is made. -/
structure St (w w' : World) (r n : Nat) (p : Option Addr) (c : Nat) (tk : List Tk) (x : Nat) (s : RS) (m : Nat) : Prop where
  c : CAt w' r n p c tk x s m
  z : Blk w' 29 w.heap.size (cells6 0 0 0 0 0 (.slice none 0 0))
  g : G2 r x w w'
  hr : r < w.heap.size
  hx : x < w.heap.size
  pb : n = 0 ∨ ∀ a, p = some a → a.block < w.heap.size
section
variable {w w' w'' : World} {r n : Nat} {p : Option Addr} {c : Nat} {tk : List Tk} {x : Nat} {s s' : RS} {m m' : Nat}
theorem St.start (h : CAt w r n p c tk x s m) : St w (w.alloc (.cells #[.int .i64 0, .int .i64 0, .int .i64 0, .int .u64 0, .int .u64 0, .slice none 0 0] 29)) r n p c tk x s m :=
  ⟨h.below (below_alloc (Below.refl _ _) _), Blk.new _ _ _, G2.ofBelow (below_alloc (Below.refl _ _) _), h.2.1.lt, h.lt, by
    by_cases hn : n = 0
    · exact .inl hn
    · right
      intro a ha
      obtain ⟨g, off, hp, hc⟩ := h.2.1.2.1.2 (by omega)
      have h0 := hc 0 (by omega)
      have hl := h.2.1.2.1.1
      rw [List.getElem?_eq_getElem (by omega)] at h0
      rw [ha] at hp
      injection hp with hp
      rw [hp]
      exact World.block_lt_of_cell? w _ h0⟩
theorem St.below (h : St w w' r n p c tk x s m) (hb : Below w'.heap.size w' w'') : St w w'' r n p c tk x s m :=
  ⟨h.c.below hb, h.z.below hb, h.g.trans (G2.ofBelow hb), h.hr, h.hx, h.pb⟩
theorem St.rd (h : St w w' r n p c tk x s m) (hr : RdrAt w'' r n p c tk s') (hg : w'.grownBy w'' (some r)) : St w w'' r n p c tk x s' m :=
  ⟨h.c.rd hr hg, h.z.g2 (G2.ofR (x := x) hg) (by have := h.hr; omega) (by have := h.hx; omega), h.g.trans (G2.ofR hg), h.hr, h.hx, h.pb⟩
theorem St.cat (h : St w w' r n p c tk x s m) (hc : CAt w'' r n p c tk x s' m') (hg : G2 r x w' w'') : St w w'' r n p c tk x s' m' :=
  ⟨hc, h.z.g2 hg (by have := h.hr; omega) (by have := h.hx; omega), h.g.trans hg, h.hr, h.hx, h.pb⟩
theorem St.alloc (h : St w w' r n p c tk x s m) (o : Obj) : St w (w'.alloc o) r n p c tk x s m := h.below (below_alloc (Below.refl _ _) o)
theorem St.set (h : St w w' r n p c tk x s m) {b : Nat} (hb : w.heap.size < b) (j : Nat) (v : Value) : St w (w'.setCell ⟨b, j, none⟩ v) r n p c tk x s m := by
  have h1 := h.hr
  have h2 := h.hx
  have hG : G2 r x w (w'.setCell ⟨b, j, none⟩ v) := ⟨h.g.os, h.g.tape, h.g.output, by simpa using h.g.size, fun i hi e1 e2 => (Below.heap_setCell _ _ _ i (by simp; omega)).trans (h.g.block i hi e1 e2)⟩
  refine ⟨⟨h.c.1.other (by simp; omega) v, ?_, h.c.2.2⟩, h.z.other (by simp; omega) v, hG, h1, h2, h.pb⟩
  refine ⟨h.c.2.1.1.other (by simp; omega) v, ?_, h.c.2.1.2.2⟩
  refine ⟨h.c.2.1.2.1.1, fun hn => ?_⟩
  obtain ⟨g, off, hp, hc⟩ := h.c.2.1.2.1.2 hn
  refine ⟨g, off, hp, fun j' hj' => ?_⟩
  have hne : g ≠ b := by
    rcases h.pb with h0 | h0
    · omega
    · have := h0 _ hp; simp at this; omega
  have h3 := hc j' hj'
  rw [World.cell?_setCell_far _ _ _ _ (by simp; omega)]
  exact h3
theorem St.c0 (h : St w w' r n p c tk x s m) : w'.cell? ⟨x, 0, none⟩ = some (.pointer (some ⟨r, 0, none⟩)) := h.c.1.cell 0
theorem St.lt (h : St w w' r n p c tk x s m) : w.heap.size < w'.heap.size := h.z.lt
theorem St.xlt (h : St w w' r n p c tk x s m) : x < w'.heap.size := h.c.lt
end

/-- Nothing but the block g is another one. -/
structure Far (g : Nat) (w W : World) : Prop where
  os : W.os = w.os
  tape : W.tape = w.tape
  output : W.output = w.output
  size : W.heap.size = w.heap.size
  block : ∀ i, i ≠ g → W.heap[i]? = w.heap[i]?
theorem Far.refl (g : Nat) (w : World) : Far g w w := ⟨rfl, rfl, rfl, rfl, fun _ _ => rfl⟩
theorem Far.set {g : Nat} {w W : World} (h : Far g w W) (j : Nat) (v : Value) : Far g w (W.setCell ⟨g, j, none⟩ v) :=
  ⟨h.os, h.tape, h.output, by simpa using h.size, fun i hi => (Below.heap_setCell _ _ _ i hi).trans (h.block i hi)⟩
theorem St.far {w w' W : World} {r n : Nat} {p : Option Addr} {c : Nat} {tk : List Tk} {x : Nat} {s : RS} {m : Nat} {t : CT} {cs : List Value}
    (h : St w w' r n p c tk x s m) (ht : CT.At w' (fun g => w.heap.size < g) t cs) (hf : Far w.heap.size w' W) :
    CT.At W (fun g => w.heap.size ≤ g) t cs ∧ CAt W r n p c tk x s m ∧ G2 r x w W := by
  have hr := h.hr
  have hx := h.hx
  have hG : G2 r x w W := ⟨hf.os.trans h.g.os, hf.tape.trans h.g.tape, hf.output.trans h.g.output, by have := h.g.size; have := hf.size; omega, fun i hi e1 e2 => (hf.block i (by omega)).trans (h.g.block i hi e1 e2)⟩
  refine ⟨?_, ?_, hG⟩
  · refine CT.At.sub (S := fun g => w.heap.size < g) (fun g hg _ => Nat.le_of_lt hg) _ _ (CT.At.keep (fun a v hB hc => ?_) _ _ ht)
    exact (World.cell?_of_block (hf.block a.block (by omega))).trans hc
  · refine ⟨(hf.block x (by omega)).trans h.c.1, ⟨(hf.block r (by omega)).trans h.c.2.1.1, ⟨h.c.2.1.2.1.1, fun hn => ?_⟩, h.c.2.1.2.2⟩, h.c.2.2⟩
    obtain ⟨g, off, hp, hc⟩ := h.c.2.1.2.1.2 hn
    refine ⟨g, off, hp, fun j' hj' => ?_⟩
    have hne : g ≠ w.heap.size := by
      rcases h.pb with h0 | h0
      · omega
      · have := h0 _ hp; simp at this; omega
    exact (World.cell?_of_block (hf.block g hne)).trans (hc j' hj')
/-- The end: the answer is laid down. -/
theorem St.done {w w' : World} {r n : Nat} {p : Option Addr} {c : Nat} {tk : List Tk} {x : Nat} {s : RS} {m : Nat} {Q : Ending → World → Prop} {fn : Func} {a : Act} {k co rg ad va : Int} {sl : Value} {t : CT} {Y : CT × RS × Nat}
    (h : St w w' r n p c tk x s m) (ht : CT.At w' (fun g => w.heap.size < g) t (cells6 k co rg ad va sl)) (hY : Y = (t, s, m))
    (hQ : ∀ e W, (∃ cs : List Value, e = .returned (.agg cs.toArray) ∧ CT.At W (fun g => w.heap.size ≤ g) Y.1 cs ∧ CAt W r n p c tk x Y.2.1 Y.2.2 ∧ G2 r x w W) → Q e W)
    (hv : ∀ W : World, Blk W 29 w.heap.size (cells6 k co rg ad va sl) → (results fn a.tmps).run Tryz.prog W = .ok (.agg #[.int .i64 k, .int .i64 co, .int .i64 rg, .int .u64 ad, .int .u64 va, sl]) W) (hd : a.defers = []) :
    bodyPost Tryz.prog fn Q .ret a ((((((w'.setCell ⟨w.heap.size, 0, none⟩ (.int .i64 k)).setCell ⟨w.heap.size, 1, none⟩ (.int .i64 co)).setCell ⟨w.heap.size, 2, none⟩ (.int .i64 rg)).setCell ⟨w.heap.size, 3, none⟩ (.int .u64 ad)).setCell ⟨w.heap.size, 4, none⟩ (.int .u64 va)).setCell ⟨w.heap.size, 5, none⟩ sl) := by
  subst hY
  have hB := blk_set6 h.z (.int .i64 k) (.int .i64 co) (.int .i64 rg) (.int .u64 ad) (.int .u64 va) sl
  have hF := ((((((Far.refl w.heap.size w').set 0 (.int .i64 k)).set 1 (.int .i64 co)).set 2 (.int .i64 rg)).set 3 (.int .u64 ad)).set 4 (.int .u64 va)).set 5 sl
  generalize ((((((w'.setCell ⟨w.heap.size, 0, none⟩ (.int .i64 k)).setCell ⟨w.heap.size, 1, none⟩ (.int .i64 co)).setCell ⟨w.heap.size, 2, none⟩ (.int .i64 rg)).setCell ⟨w.heap.size, 3, none⟩ (.int .u64 ad)).setCell ⟨w.heap.size, 4, none⟩ (.int .u64 va)).setCell ⟨w.heap.size, 5, none⟩ sl) = W at *
  exact bodyPost_ret (hv _ hB) hd (hQ _ _ ⟨cells6 k co rg ad va sl, rfl, h.far ht hF⟩)
theorem tok_field1 (a : Int) (b : ByteArray) (c : Int) (w : World) : (Instr.field 75 (.agg #[.int .i64 a, .string b, .int .i64 c]) 1).run Tryz.prog w = .ok (.string b) w := by kernel_rfl
theorem isR_next {tk : List Tk} {s : RS} {t : ByteArray} {kd : Int} (h : isR tk s kd t = true) (hk : kd ≠ 4) : (nextR tk s).k = s.k + 1 := by
  unfold isR at h
  simp at h
  unfold nextR
  rw [if_neg (by rw [h.1]; exact hk)]
  rfl
theorem St.room {w w' : World} {r n : Nat} {p : Option Addr} {c : Nat} {tk : List Tk} {x : Nat} {s : RS} {m : Nat} (h : St w w' r n p c tk x s m) : s.k ≤ n := h.c.2.1.2.2.2.2.1
end Go.Proofs.YtcaifejfkpmeeaaGreat
