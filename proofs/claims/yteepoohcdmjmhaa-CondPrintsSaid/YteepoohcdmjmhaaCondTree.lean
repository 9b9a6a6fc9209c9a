/- Conditions as they lie in memory. -/
import Derived.Test.YteepoohcdmjmhaaBlk
import Derived.Test.YteepoohcdmjmhaaRds
import Derived.Test.YteepoohcdmjmhaaOpens
namespace Go.Proofs.Yteepoohcdmjmhaa
open Go.RowKit Go.WideShapes Go.ChangeShapes
set_option linter.unusedVariables false
set_option linter.unusedSimpArgs false

/-- A number of 64 bits with its sign. -/
abbrev I64 (n : Int) : Prop := -9223372036854775808 ≤ n ∧ n ≤ 9223372036854775807
/-- A condition: its sort, core, register, address, value, parts. -/
inductive CT where
  | mk (kind core reg : Int) (addr value : Nat) (args : List CT) : CT
mutual
/-- These cells are that condition; its parts lie in blocks of S. -/
def CT.At (w : World) (S : Nat → Prop) : CT → List Value → Prop
  | .mk k c r a v args, cs => ∃ p cap, cs = [.int .i64 k, .int .i64 c, .int .i64 r, .int .u64 (a : Nat), .int .u64 (v : Nat), .slice p args.length cap] ∧ args.length ≤ cap ∧ cap ≤ maxLen ∧ a < 18446744073709551616 ∧ (v < 18446744073709551616 ∧ I64 k ∧ I64 c ∧ I64 r) ∧ CT.Row w S p 0 args
def CT.Row (w : World) (S : Nat → Prop) (p : Option Addr) : Nat → List CT → Prop
  | _, [] => True
  | i, t :: ts => (∃ g off es, p = some ⟨g, off, none⟩ ∧ S g ∧ es.length = 6 ∧ (∀ j, j < 6 → w.cell? ⟨g, off + i * 6 + j, none⟩ = es[j]?) ∧ CT.At w S t es) ∧ CT.Row w S p (i + 1) ts
end
mutual
theorem CT.At.keep {w w' : World} {S : Nat → Prop} (hk : ∀ (a : Addr) (v : Value), S a.block → w.cell? a = some v → w'.cell? a = some v) : ∀ (t : CT) (cs : List Value), CT.At w S t cs → CT.At w' S t cs
  | .mk k c r a v args, cs, h => by
    unfold CT.At at h ⊢
    obtain ⟨p, cap, h1, h2, h3, h4, h5, h6⟩ := h
    exact ⟨p, cap, h1, h2, h3, h4, h5, CT.Row.keep hk p 0 args h6⟩
theorem CT.Row.keep {w w' : World} {S : Nat → Prop} (hk : ∀ (a : Addr) (v : Value), S a.block → w.cell? a = some v → w'.cell? a = some v) (p : Option Addr) : ∀ (i : Nat) (ts : List CT), CT.Row w S p i ts → CT.Row w' S p i ts
  | _, [], _ => by unfold CT.Row; trivial
  | i, t :: ts, h => by
    unfold CT.Row at h ⊢
    obtain ⟨⟨g, off, es, h1, h2, h3, h4, h5⟩, h6⟩ := h
    refine ⟨⟨g, off, es, h1, h2, h3, fun j hj => ?_, CT.At.keep hk t es h5⟩, CT.Row.keep hk p (i + 1) ts h6⟩
    have h7 := h4 j hj
    rw [List.getElem?_eq_getElem (show j < es.length by omega)] at h7 ⊢
    exact hk _ _ h2 h7
end
theorem CT.Row.at_ {w : World} {S : Nat → Prop} {p : Option Addr} : ∀ {ts : List CT} {i : Nat}, CT.Row w S p i ts → ∀ {j : Nat} (hj : j < ts.length), ∃ g off es, p = some ⟨g, off, none⟩ ∧ S g ∧ es.length = 6 ∧ (∀ x, x < 6 → w.cell? ⟨g, off + (i + j) * 6 + x, none⟩ = es[x]?) ∧ CT.At w S ts[j] es
  | t :: ts, i, h, 0, hj => by
    unfold CT.Row at h
    obtain ⟨⟨g, off, es, h1, h2, h3, h4, h5⟩, _⟩ := h
    exact ⟨g, off, es, h1, h2, h3, by rw [Nat.add_zero]; exact h4, h5⟩
  | t :: ts, i, h, j + 1, hj => by
    unfold CT.Row at h
    obtain ⟨g, off, es, h1, h2, h3, h4, h5⟩ := CT.Row.at_ h.2 (j := j) (by simpa using hj)
    exact ⟨g, off, es, h1, h2, h3, fun x hx => by rw [show i + (j + 1) = i + 1 + j by omega]; exact h4 x hx, h5⟩
theorem CT.At.below {w w' : World} {S : Nat → Prop} {t : CT} {cs : List Value} (h : CT.At w S t cs) (hb : Below w.heap.size w w') : CT.At w' S t cs :=
  CT.At.keep (fun a v _ hc => (hb.cell (World.block_lt_of_cell? w a hc)).trans hc) t cs h
theorem CT.At.dn {w : World} {S : Nat → Prop} {t : CT} {cs : List Value} (h : CT.At w S t cs) (k : Nat) : CT.At (w.drewN k) S t cs := h.below (below_drewN (Below.refl _ _) k)
mutual
theorem CT.At.sub {w : World} {S S' : Nat → Prop} (hs : ∀ g, S g → g < w.heap.size → S' g) : ∀ (t : CT) (cs : List Value), CT.At w S t cs → CT.At w S' t cs
  | .mk k c r a v args, cs, h => by
    unfold CT.At at h ⊢
    obtain ⟨p, cap, h1, h2, h3, h4, h5, h6⟩ := h
    exact ⟨p, cap, h1, h2, h3, h4, h5, CT.Row.sub hs p 0 args h6⟩
theorem CT.Row.sub {w : World} {S S' : Nat → Prop} (hs : ∀ g, S g → g < w.heap.size → S' g) (p : Option Addr) : ∀ (i : Nat) (ts : List CT), CT.Row w S p i ts → CT.Row w S' p i ts
  | _, [], _ => by unfold CT.Row; trivial
  | i, t :: ts, h => by
    unfold CT.Row at h ⊢
    obtain ⟨⟨g, off, es, h1, h2, h3, h4, h5⟩, h6⟩ := h
    refine ⟨⟨g, off, es, h1, hs g h2 ?_, h3, h4, CT.At.sub hs t es h5⟩, CT.Row.sub hs p (i + 1) ts h6⟩
    have h7 := h4 0 (by omega)
    rw [List.getElem?_eq_getElem (show 0 < es.length by omega)] at h7
    exact World.block_lt_of_cell? w _ h7
end
/-- Two rows may change; the others stand. -/
structure G2 (r x : Nat) (w w' : World) : Prop where
  os : w'.os = w.os
  tape : w'.tape = w.tape
  output : w'.output = w.output
  size : w.heap.size ≤ w'.heap.size
  block : ∀ i, i < w.heap.size → i ≠ r → i ≠ x → w'.heap[i]? = w.heap[i]?
theorem G2.refl (r x : Nat) (w : World) : G2 r x w w := ⟨rfl, rfl, rfl, Nat.le_refl _, fun _ _ _ _ => rfl⟩
theorem G2.trans {r x : Nat} {a b c : World} (h : G2 r x a b) (k : G2 r x b c) : G2 r x a c :=
  ⟨k.os.trans h.os, k.tape.trans h.tape, k.output.trans h.output, Nat.le_trans h.size k.size, fun i hi h1 h2 => (k.block i (Nat.lt_of_lt_of_le hi h.size) h1 h2).trans (h.block i hi h1 h2)⟩
theorem G2.ofBelow {r x : Nat} {w w' : World} (hb : Below w.heap.size w w') : G2 r x w w' := ⟨hb.os, hb.tape, hb.output, hb.size, fun i hi _ _ => hb.block i hi⟩
theorem G2.ofR {r x : Nat} {w w' : World} (hg : w.grownBy w' (some r)) : G2 r x w w' := ⟨hg.os, hg.tape, hg.output, hg.size, fun i hi h _ => hg.block i hi (fun e => h (by injection e))⟩
theorem G2.ofX {r x : Nat} {w w' : World} (hg : w.grownBy w' (some x)) : G2 r x w w' := ⟨hg.os, hg.tape, hg.output, hg.size, fun i hi _ h => hg.block i hi (fun e => h (by injection e))⟩
theorem G2.below {r x B : Nat} {w w' : World} (h : G2 r x w w') (hr : B ≤ r) (hx : B ≤ x) (hB : B ≤ w.heap.size) : Below B w w' := ⟨h.os, h.tape, h.output, h.size, fun i hi => h.block i (by omega) (by omega) (by omega)⟩
theorem Blk.g2 {r x : Nat} {w w' : World} {T : TypeId} {g : Nat} {cs : List Value} (h : Blk w T g cs) (hg : G2 r x w w') (h1 : g ≠ r) (h2 : g ≠ x) : Blk w' T g cs := (hg.block g h.lt h1 h2).trans h
theorem CT.At.g2 {w w' : World} {S : Nat → Prop} {r x : Nat} {t : CT} {cs : List Value} (h : CT.At w S t cs) (hg : G2 r x w w') (hr : ¬ S r) (hx : ¬ S x) : CT.At w' S t cs :=
  CT.At.keep (fun a v hB hc => (World.cell?_of_block (hg.block a.block (World.block_lt_of_cell? w a hc) (fun e => hr (e ▸ hB)) (fun e => hx (e ▸ hB)))).trans hc) t cs h

/-! What came in. -/
/-- These cells read as data of type t, at so much fuel. -/
def OpensN (P : Program) (w : World) (fuel : Nat) (t : TypeId) (cs : List Value) : Prop :=
  ∃ (H : Type) (enc : TypeId × Value → H) (base : Nat) (spare : Nat → Bool) (held : Bool) (x : DataW H × List MemPlace), DataW.trod enc P w base spare held fuel t cs = some x
theorem opensN_of {P : Program} {w : World} {t : TypeId} {H : Type} {enc : TypeId × Value → H} {base : Nat} {spare : Nat → Bool} {held : Bool} {v : Value} {d : DataW H} {p : List MemPlace} (h : DataW.Trod enc P w base spare held t v d p) : ∃ fuel, OpensN P w fuel t v.cells.toList := by
  obtain ⟨fuel, hf⟩ := h
  exact ⟨fuel, H, enc, base, spare, held, (d, p), hf⟩
theorem OpensN.opens {P : Program} {w : World} {fuel : Nat} {t : TypeId} {cs : List Value} (h : OpensN P w fuel t cs) : Opens P w t cs := by
  obtain ⟨H, enc, base, spare, held, x, hf⟩ := h
  exact ⟨H, enc, base, spare, held, fuel, x, hf⟩
section
variable {P : Program} {w : World} {fuel : Nat} {t e : TypeId} {cs : List Value}
theorem opensN_struct {fs : Array Field} (ht : P.underlying t = some (.struct fs)) (h : OpensN P w fuel t cs) :
    cs.length = P.cellsOf t ∧ ∃ n, fuel = n + 1 ∧ ∀ (i : Nat) (f : Field), fs[i]? = some f → OpensN P w n f.type ((cs.drop f.offset).take (P.cellsOf f.type)) := by
  obtain ⟨H, enc, base, spare, held, x, hf⟩ := h
  obtain ⟨xs, n, hn, h2, hl, hx, hi⟩ := DataW.trod_struct ht hf
  refine ⟨hl, n, ?_, fun i f hf' => ?_⟩
  · exact hn
  · have hlt : i < fs.size := (Array.getElem?_eq_some_iff.1 hf').1
    have h1 := hi i f hf'
    rw [List.getElem?_eq_getElem (show i < xs.length by omega)] at h1
    exact ⟨H, enc, base, spare, held, _, h1⟩
theorem opensN_slice (ht : P.underlying t = some (.slice e)) (h : OpensN P w fuel t cs) :
    cs = [.slice none 0 0] ∨ ∃ (a : Addr) (len cap n : Nat), fuel = n + 1 ∧ cs = [.slice (some a) len cap] ∧ len ≤ cap ∧ cap ≤ maxLen ∧
      ∀ i, i < len → ∃ es, es.length = P.cellsOf e ∧ (∀ j, j < P.cellsOf e → w.cell? ((a.add (i * P.cellsOf e)).add j) = es[j]?) ∧ OpensN P w n e es := by
  obtain ⟨H, enc, base, spare, held, x, hf⟩ := h
  rcases DataW.trod_slice ht hf with ⟨h1, _⟩ | ⟨a, len, cap, elems, rest, n, hn, h1, _, _, hlc, hcm, hel, hi, _, _⟩
  · exact .inl h1
  · refine .inr ⟨a, len, cap, n, ?_, h1, hlc, hcm, fun i hil => ?_⟩
    · exact hn
    · have h2 := hi i hil
      rw [List.getElem?_eq_getElem (show i < elems.length by omega)] at h2
      obtain ⟨es, h3, h4⟩ := Option.bind_eq_some_iff.1 h2
      obtain ⟨_, h5, h6⟩ := World.cells?_some h3
      exact ⟨es, h5, h6, H, enc, base, spare, held, _, h4⟩
end
end Go.Proofs.Yteepoohcdmjmhaa
