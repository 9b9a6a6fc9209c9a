/- Reading a condition: what it should be. -/
import Derived.Test.YtcaifejfkpmeeaaGreatMgab
import Derived.Test.YtcaifejfkpmeeaaGreatMgaf
namespace Go.Proofs.YtcaifejfkpmeeaaGreat
open Go.RowKit Go.WideShapes Go.ChangeShapes
set_option linter.unusedVariables false
set_option linter.unusedSimpArgs false

/-- A condition: its sort, core, register, address, value, parts. -/
inductive CT where
  | mk (kind core reg : Int) (addr value : Nat) (args : List CT) : CT
mutual
/-- These cells are that condition; its parts lie in blocks of S. -/
def CT.At (w : World) (S : Nat → Prop) : CT → List Value → Prop
  | .mk k c r a v args, cs => ∃ p cap, cs = [.int .i64 k, .int .i64 c, .int .i64 r, .int .u64 (a : Nat), .int .u64 (v : Nat), .slice p args.length cap] ∧ args.length ≤ cap ∧ cap ≤ maxLen ∧ a < 18446744073709551616 ∧ (v < 18446744073709551616 ∧ I64 k ∧ I64 c ∧ I64 r) ∧ CT.Row w S p 0 args
def CT.Row (w : World) (S : Nat → Prop) (p : Option Addr) : Nat → List CT → Prop
  | _, [] => True
  | i, t :: ts => (∃ g off es, p = some ⟨g, off, none⟩ ∧ S g ∧ es.length = 6 ∧ (∀ j, j < 6 → w.cell? ⟨g, off + i * 6 + j, none⟩ = es[j]?) ∧ CT.At w S t es) ∧ CT.Row w S p (i + 1) ts
end
mutual
theorem CT.At.keep {w w' : World} {S : Nat → Prop} (hk : ∀ (a : Addr) (v : Value), S a.block → w.cell? a = some v → w'.cell? a = some v) : ∀ (t : CT) (cs : List Value), CT.At w S t cs → CT.At w' S t cs
  | .mk k c r a v args, cs, h => by
    unfold CT.At at h ⊢
    obtain ⟨p, cap, h1, h2, h3, h4, h5, h6⟩ := h
    exact ⟨p, cap, h1, h2, h3, h4, h5, CT.Row.keep hk p 0 args h6⟩
theorem CT.Row.keep {w w' : World} {S : Nat → Prop} (hk : ∀ (a : Addr) (v : Value), S a.block → w.cell? a = some v → w'.cell? a = some v) (p : Option Addr) : ∀ (i : Nat) (ts : List CT), CT.Row w S p i ts → CT.Row w' S p i ts
  | _, [], _ => by unfold CT.Row; trivial
  | i, t :: ts, h => by
    unfold CT.Row at h ⊢
    obtain ⟨⟨g, off, es, h1, h2, h3, h4, h5⟩, h6⟩ := h
    refine ⟨⟨g, off, es, h1, h2, h3, fun j hj => ?_, CT.At.keep hk t es h5⟩, CT.Row.keep hk p (i + 1) ts h6⟩
    have h7 := h4 j hj
    rw [List.getElem?_eq_getElem (show j < es.length by omega)] at h7 ⊢
    exact hk _ _ h2 h7
end
theorem CT.Row.at_ {w : World} {S : Nat → Prop} {p : Option Addr} : ∀ {ts : List CT} {i : Nat}, CT.Row w S p i ts → ∀ {j : Nat} (hj : j < ts.length), ∃ g off es, p = some ⟨g, off, none⟩ ∧ S g ∧ es.length = 6 ∧ (∀ x, x < 6 → w.cell? ⟨g, off + (i + j) * 6 + x, none⟩ = es[x]?) ∧ CT.At w S ts[j] es
  | t :: ts, i, h, 0, hj => by
    unfold CT.Row at h
    obtain ⟨⟨g, off, es, h1, h2, h3, h4, h5⟩, _⟩ := h
    exact ⟨g, off, es, h1, h2, h3, by rw [Nat.add_zero]; exact h4, h5⟩
  | t :: ts, i, h, j + 1, hj => by
    unfold CT.Row at h
    obtain ⟨g, off, es, h1, h2, h3, h4, h5⟩ := CT.Row.at_ h.2 (j := j) (by simpa using hj)
    exact ⟨g, off, es, h1, h2, h3, fun x hx => by rw [show i + (j + 1) = i + 1 + j by omega]; exact h4 x hx, h5⟩
theorem CT.At.below {w w' : World} {S : Nat → Prop} {t : CT} {cs : List Value} (h : CT.At w S t cs) (hb : Below w.heap.size w w') : CT.At w' S t cs :=
  CT.At.keep (fun a v _ hc => (hb.cell (World.block_lt_of_cell? w a hc)).trans hc) t cs h
theorem CT.At.dn {w : World} {S : Nat → Prop} {t : CT} {cs : List Value} (h : CT.At w S t cs) (k : Nat) : CT.At (w.drewN k) S t cs := h.below (below_drewN (Below.refl _ _) k)
mutual
theorem CT.At.sub {w : World} {S S' : Nat → Prop} (hs : ∀ g, S g → g < w.heap.size → S' g) : ∀ (t : CT) (cs : List Value), CT.At w S t cs → CT.At w S' t cs
  | .mk k c r a v args, cs, h => by
    unfold CT.At at h ⊢
    obtain ⟨p, cap, h1, h2, h3, h4, h5, h6⟩ := h
    exact ⟨p, cap, h1, h2, h3, h4, h5, CT.Row.sub hs p 0 args h6⟩
theorem CT.Row.sub {w : World} {S S' : Nat → Prop} (hs : ∀ g, S g → g < w.heap.size → S' g) (p : Option Addr) : ∀ (i : Nat) (ts : List CT), CT.Row w S p i ts → CT.Row w S' p i ts
  | _, [], _ => by unfold CT.Row; trivial
  | i, t :: ts, h => by
    unfold CT.Row at h ⊢
    obtain ⟨⟨g, off, es, h1, h2, h3, h4, h5⟩, h6⟩ := h
    refine ⟨⟨g, off, es, h1, hs g h2 ?_, h3, h4, CT.At.sub hs t es h5⟩, CT.Row.sub hs p (i + 1) ts h6⟩
    have h7 := h4 0 (by omega)
    rw [List.getElem?_eq_getElem (show 0 < es.length by omega)] at h7
    exact World.block_lt_of_cell? w _ h7
end
/-- Two rows may change; the others stand. -/
structure G2 (r x : Nat) (w w' : World) : Prop where
  os : w'.os = w.os
  tape : w'.tape = w.tape
  output : w'.output = w.output
  size : w.heap.size ≤ w'.heap.size
  block : ∀ i, i < w.heap.size → i ≠ r → i ≠ x → w'.heap[i]? = w.heap[i]?
theorem G2.refl (r x : Nat) (w : World) : G2 r x w w := ⟨rfl, rfl, rfl, Nat.le_refl _, fun _ _ _ _ => rfl⟩
theorem G2.trans {r x : Nat} {a b c : World} (h : G2 r x a b) (k : G2 r x b c) : G2 r x a c :=
  ⟨k.os.trans h.os, k.tape.trans h.tape, k.output.trans h.output, Nat.le_trans h.size k.size, fun i hi h1 h2 => (k.block i (Nat.lt_of_lt_of_le hi h.size) h1 h2).trans (h.block i hi h1 h2)⟩
theorem G2.ofBelow {r x : Nat} {w w' : World} (hb : Below w.heap.size w w') : G2 r x w w' := ⟨hb.os, hb.tape, hb.output, hb.size, fun i hi _ _ => hb.block i hi⟩
theorem G2.ofR {r x : Nat} {w w' : World} (hg : w.grownBy w' (some r)) : G2 r x w w' := ⟨hg.os, hg.tape, hg.output, hg.size, fun i hi h _ => hg.block i hi (fun e => h (by injection e))⟩
theorem G2.ofX {r x : Nat} {w w' : World} (hg : w.grownBy w' (some x)) : G2 r x w w' := ⟨hg.os, hg.tape, hg.output, hg.size, fun i hi _ h => hg.block i hi (fun e => h (by injection e))⟩
theorem G2.below {r x B : Nat} {w w' : World} (h : G2 r x w w') (hr : B ≤ r) (hx : B ≤ x) (hB : B ≤ w.heap.size) : Below B w w' := ⟨h.os, h.tape, h.output, h.size, fun i hi => h.block i (by omega) (by omega) (by omega)⟩
theorem Blk.g2 {r x : Nat} {w w' : World} {T : TypeId} {g : Nat} {cs : List Value} (h : Blk w T g cs) (hg : G2 r x w w') (h1 : g ≠ r) (h2 : g ≠ x) : Blk w' T g cs := (hg.block g h.lt h1 h2).trans h
theorem CT.At.g2 {w w' : World} {S : Nat → Prop} {r x : Nat} {t : CT} {cs : List Value} (h : CT.At w S t cs) (hg : G2 r x w w') (hr : ¬ S r) (hx : ¬ S x) : CT.At w' S t cs :=
  CT.At.keep (fun a v hB hc => (World.cell?_of_block (hg.block a.block (World.block_lt_of_cell? w a hc) (fun e => hr (e ▸ hB)) (fun e => hx (e ▸ hB)))).trans hc) t cs h

/-! What came in. -/
/-- These cells read as data of type t, at so much fuel. -/
def OpensN (P : Program) (w : World) (fuel : Nat) (t : TypeId) (cs : List Value) : Prop :=
  ∃ (H : Type) (enc : TypeId × Value → H) (base : Nat) (spare : Nat → Bool) (held : Bool) (x : DataW H × List MemPlace), DataW.trod enc P w base spare held fuel t cs = some x
theorem opensN_of {P : Program} {w : World} {t : TypeId} {H : Type} {enc : TypeId × Value → H} {base : Nat} {spare : Nat → Bool} {held : Bool} {v : Value} {d : DataW H} {p : List MemPlace} (h : DataW.Trod enc P w base spare held t v d p) : ∃ fuel, OpensN P w fuel t v.cells.toList := by
  obtain ⟨fuel, hf⟩ := h
  exact ⟨fuel, H, enc, base, spare, held, (d, p), hf⟩
theorem OpensN.opens {P : Program} {w : World} {fuel : Nat} {t : TypeId} {cs : List Value} (h : OpensN P w fuel t cs) : Opens P w t cs := by
  obtain ⟨H, enc, base, spare, held, x, hf⟩ := h
  exact ⟨H, enc, base, spare, held, fuel, x, hf⟩
section
variable {P : Program} {w : World} {fuel : Nat} {t e : TypeId} {cs : List Value}
theorem opensN_struct {fs : Array Field} (ht : P.underlying t = some (.struct fs)) (h : OpensN P w fuel t cs) :
    cs.length = P.cellsOf t ∧ ∃ n, fuel = n + 1 ∧ ∀ (i : Nat) (f : Field), fs[i]? = some f → OpensN P w n f.type ((cs.drop f.offset).take (P.cellsOf f.type)) := by
  obtain ⟨H, enc, base, spare, held, x, hf⟩ := h
  obtain ⟨xs, n, hn, h2, hl, hx, hi⟩ := DataW.trod_struct ht hf
  refine ⟨hl, n, ?_, fun i f hf' => ?_⟩
  · exact hn
  · have hlt : i < fs.size := (Array.getElem?_eq_some_iff.1 hf').1
    have h1 := hi i f hf'
    rw [List.getElem?_eq_getElem (show i < xs.length by omega)] at h1
    exact ⟨H, enc, base, spare, held, _, h1⟩
theorem opensN_slice (ht : P.underlying t = some (.slice e)) (h : OpensN P w fuel t cs) :
    cs = [.slice none 0 0] ∨ ∃ (a : Addr) (len cap n : Nat), fuel = n + 1 ∧ cs = [.slice (some a) len cap] ∧ len ≤ cap ∧ cap ≤ maxLen ∧
      ∀ i, i < len → ∃ es, es.length = P.cellsOf e ∧ (∀ j, j < P.cellsOf e → w.cell? ((a.add (i * P.cellsOf e)).add j) = es[j]?) ∧ OpensN P w n e es := by
  obtain ⟨H, enc, base, spare, held, x, hf⟩ := h
  rcases DataW.trod_slice ht hf with ⟨h1, _⟩ | ⟨a, len, cap, elems, rest, n, hn, h1, _, _, hlc, hcm, hel, hi, _, _⟩
  · exact .inl h1
  · refine .inr ⟨a, len, cap, n, ?_, h1, hlc, hcm, fun i hil => ?_⟩
    · exact hn
    · have h2 := hi i hil
      rw [List.getElem?_eq_getElem (show i < elems.length by omega)] at h2
      obtain ⟨es, h3, h4⟩ := Option.bind_eq_some_iff.1 h2
      obtain ⟨_, h5, h6⟩ := World.cells?_some h3
      exact ⟨es, h5, h6, H, enc, base, spare, held, _, h4⟩
end
end Go.Proofs.YtcaifejfkpmeeaaGreat
namespace Go.Proofs.YtcaifejfkpmeeaaGreat
open Go.RowKit
set_option linter.unusedVariables false
set_option linter.unusedSimpArgs false

inductive PF where
  | one | both | either
  | bothL (c : CT)
  | eitherL (c : CT)
def cF : CT := .mk 0 0 0 0 0 []
def okR (s : RS) : Bool := decide (s.code = 0)
def moreR (tk : List Tk) (s : RS) (m : Nat) : RS := if 64 < m + 1 then failR tk s 120 else s
def valueR (tk : List Tk) (s : RS) : Nat × RS := numberR tk (mustR tk s 3 ⟨#[61]⟩)
def regR (tk : List Tk) (s : RS) : RS := if regN (peekR tk s).2.1 = none ∨ regN (peekR tk s).2.1 = some 31 ∨ ¬ (peekR tk s).1 = 1 then failR tk s 110 else s
def leafR (tk : List Tk) (s : RS) : CT × RS :=
  if isR tk s 3 ⟨#[91]⟩ then
    let a := numberR tk (nextR tk s)
    let v := valueR tk (mustR tk a.2 3 ⟨#[93]⟩)
    (.mk 2 0 0 a.1 v.1 [], v.2)
  else if isR tk s 1 ⟨#[116, 114, 117, 101]⟩ then (.mk 7 0 0 0 0 [], nextR tk s)
  else if isR tk s 1 ⟨#[102, 97, 117, 108, 116, 115]⟩ then
    let c := smallR tk (nextR tk s) 4
    let v := valueR tk c.2
    (.mk 3 (c.1 : Nat) 0 0 v.1 [], v.2)
  else
    let c := smallR tk s 4
    let s1 := mustR tk c.2 3 ⟨#[58]⟩
    let v := valueR tk (nextR tk (regR tk s1))
    (.mk 1 (c.1 : Nat) (((regN (peekR tk s1).2.1).getD 0 : Nat) : Int) 0 v.1 [], v.2)
def parseF (tk : List Tk) : Nat → PF → RS → Nat → CT × RS × Nat
  | 0, _, s, m => (cF, s, m)
  | f + 1, .either, s, m =>
    let y := parseF tk f .both s m
    parseF tk f (.eitherL y.1) y.2.1 y.2.2
  | f + 1, .eitherL c, s, m =>
    if okR s && isR tk s 3 ⟨#[92, 47]⟩ then
      let y := parseF tk f .both (moreR tk (nextR tk s) m) (m + 1)
      parseF tk f (.eitherL (.mk 5 0 0 0 0 [c, y.1])) y.2.1 y.2.2
    else (c, s, m)
  | f + 1, .both, s, m =>
    let y := parseF tk f .one s m
    parseF tk f (.bothL y.1) y.2.1 y.2.2
  | f + 1, .bothL c, s, m =>
    if okR s && isR tk s 3 ⟨#[47, 92]⟩ then
      let y := parseF tk f .one (moreR tk (nextR tk s) m) (m + 1)
      parseF tk f (.bothL (.mk 4 0 0 0 0 [c, y.1])) y.2.1 y.2.2
    else (c, s, m)
  | f + 1, .one, s, m =>
    if okR s && isR tk s 3 ⟨#[40]⟩ then
      let y := parseF tk f .either (nextR tk s) m
      (y.1, mustR tk y.2.1 3 ⟨#[41]⟩, y.2.2)
    else if okR (moreR tk s m) then
      if isR tk (moreR tk s m) 3 ⟨#[126]⟩ then
        let y := parseF tk f .one (nextR tk (moreR tk s m)) (m + 1)
        (.mk 6 0 0 0 0 [y.1], y.2.1, y.2.2)
      else
        let z := leafR tk (moreR tk s m)
        (z.1, z.2, m + 1)
    else (cF, moreR tk s m, m + 1)

/-! A reader never goes back, and a fault stays. -/
structure Mono (s t : RS) : Prop where
  k : s.k ≤ t.k
  code : t.code = 0 → s.code = 0
theorem Mono.refl (s : RS) : Mono s s := ⟨Nat.le_refl _, id⟩
theorem Mono.trans {a b c : RS} (h : Mono a b) (k : Mono b c) : Mono a c := ⟨Nat.le_trans h.k k.k, fun e => h.code (k.code e)⟩
theorem mono_next (tk : List Tk) (s : RS) : Mono s (nextR tk s) := by
  unfold nextR onR
  split
  · exact Mono.refl s
  · exact ⟨Nat.le_succ _, id⟩
theorem mono_fail (tk : List Tk) (s : RS) (e : Int) : Mono s (failR tk s e) := by
  unfold failR
  split
  · rename_i h; exact ⟨Nat.le_refl _, fun _ => h⟩
  · exact Mono.refl s
theorem mono_must (tk : List Tk) (s : RS) (k : Int) (t : ByteArray) : Mono s (mustR tk s k t) := by
  unfold mustR
  split
  · exact mono_next tk s
  · exact mono_fail tk s _
theorem mono_number (tk : List Tk) (s : RS) : Mono s (numberR tk s).2 := by
  unfold numberR
  split
  · exact mono_next tk s
  · exact mono_fail tk s _
theorem mono_small (tk : List Tk) (s : RS) (n : Nat) : Mono s (smallR tk s n).2 := by
  unfold smallR
  split
  · exact mono_fail tk s _
  · exact mono_number tk s
theorem mono_more (tk : List Tk) (s : RS) (m : Nat) : Mono s (moreR tk s m) := by
  unfold moreR
  split
  · exact mono_fail tk s _
  · exact Mono.refl s
theorem mono_value (tk : List Tk) (s : RS) : Mono s (valueR tk s).2 := by
  unfold valueR
  exact (mono_must tk s _ _).trans (mono_number tk _)
theorem mono_reg (tk : List Tk) (s : RS) : Mono s (regR tk s) := by
  unfold regR
  split
  · exact mono_fail tk s _
  · exact Mono.refl s
theorem mono_leaf (tk : List Tk) (s : RS) : Mono s (leafR tk s).2 := by
  unfold leafR
  split
  · exact (((mono_next tk s).trans (mono_number tk _)).trans (mono_must tk _ _ _)).trans (mono_value tk _)
  · split
    · exact mono_next tk s
    · split
      · exact ((mono_next tk s).trans (mono_small tk _ _)).trans (mono_value tk _)
      · exact ((((mono_small tk s _).trans (mono_must tk _ _ _)).trans (mono_reg tk _)).trans (mono_next tk _)).trans (mono_value tk _)
theorem mono_parse (tk : List Tk) : ∀ (f : Nat) (F : PF) (s : RS) (m : Nat), Mono s (parseF tk f F s m).2.1
  | 0, _, s, m => by unfold parseF; exact Mono.refl s
  | f + 1, .either, s, m => by
    simp only [parseF]
    exact (mono_parse tk f _ _ _).trans (mono_parse tk f _ _ _)
  | f + 1, .both, s, m => by
    simp only [parseF]
    exact (mono_parse tk f _ _ _).trans (mono_parse tk f _ _ _)
  | f + 1, .eitherL c, s, m => by
    simp only [parseF]
    split
    · exact (((mono_next tk s).trans (mono_more tk _ _)).trans (mono_parse tk f _ _ _)).trans (mono_parse tk f _ _ _)
    · exact Mono.refl s
  | f + 1, .bothL c, s, m => by
    simp only [parseF]
    split
    · exact (((mono_next tk s).trans (mono_more tk _ _)).trans (mono_parse tk f _ _ _)).trans (mono_parse tk f _ _ _)
    · exact Mono.refl s
  | f + 1, .one, s, m => by
    simp only [parseF]
    split
    · exact ((mono_next tk s).trans (mono_parse tk f _ _ _)).trans (mono_must tk _ _ _)
    · split
      · split
        · exact ((mono_more tk s m).trans (mono_next tk _)).trans (mono_parse tk f _ _ _)
        · exact (mono_more tk s m).trans (mono_leaf tk _)
      · exact mono_more tk s m
/-- No more than so many parts are counted. -/
def Few (b : Nat) (s : RS) (m : Nat) : Prop := m ≤ b ∧ (s.code = 0 → m ≤ 64)
theorem few_more {tk : List Tk} {s : RS} {m b : Nat} (h : m ≤ b) : Few (b + 1) (moreR tk s m) (m + 1) := by
  refine ⟨by omega, fun e => ?_⟩
  unfold moreR at e
  split at e
  · unfold failR at e
    split at e
    · exact absurd e (by simp)
    · contradiction
  · omega
theorem Few.mono {s t : RS} {m b : Nat} (h : Few b s m) (hm : Mono s t) : Few b t m := ⟨h.1, fun e => h.2 (hm.code e)⟩
theorem Few.wider {s : RS} {m b c : Nat} (h : Few b s m) (hb : b ≤ c) : Few c s m := ⟨Nat.le_trans h.1 hb, h.2⟩
theorem few_ok {s : RS} {m b : Nat} (h : Few b s m) (ho : okR s = true) : m ≤ 64 := h.2 (by simpa [okR] using ho)
def PF.cap : PF → Nat
  | .bothL _ => 66
  | .eitherL _ => 66
  | _ => 65
theorem few_parse (tk : List Tk) : ∀ (f : Nat) (F : PF) (s : RS) (m : Nat), Few F.cap s m → Few 66 (parseF tk f F s m).2.1 (parseF tk f F s m).2.2
  | 0, F, s, m, h => by unfold parseF; exact h.wider (by cases F <;> simp [PF.cap])
  | f + 1, .either, s, m, h => by
    simp only [parseF]
    exact few_parse tk f (.eitherL _) _ _ (few_parse tk f .both s m h)
  | f + 1, .both, s, m, h => by
    simp only [parseF]
    exact few_parse tk f (.bothL _) _ _ (few_parse tk f .one s m h)
  | f + 1, .eitherL c, s, m, h => by
    simp only [parseF]
    split
    · rename_i e
      have ho := few_ok h (by simp at e; exact e.1)
      exact few_parse tk f (.eitherL _) _ _ (few_parse tk f .both _ _ (few_more (b := 64) ho))
    · exact h
  | f + 1, .bothL c, s, m, h => by
    simp only [parseF]
    split
    · rename_i e
      have ho := few_ok h (by simp at e; exact e.1)
      exact few_parse tk f (.bothL _) _ _ (few_parse tk f .one _ _ (few_more (b := 64) ho))
    · exact h
  | f + 1, .one, s, m, h => by
    simp only [parseF]
    split
    · rename_i e
      exact (few_parse tk f .either _ _ (h.mono (mono_next tk s))).mono (mono_must tk _ _ _)
    · have hm : Few 66 (moreR tk s m) (m + 1) := few_more (b := 65) h.1
      split
      · rename_i e
        split
        · exact few_parse tk f .one _ _ ((show Few 65 (moreR tk s m) (m + 1) from ⟨by have := few_ok hm e; omega, hm.2⟩).mono (mono_next tk _))
        · exact hm.mono (mono_leaf tk _)
      · exact hm

/-! The small functions. -/
def CAt (w : World) (r n : Nat) (p : Option Addr) (c : Nat) (tk : List Tk) (x : Nat) (s : RS) (m : Nat) : Prop :=
  Blk w 118 x [.pointer (some ⟨r, 0, none⟩), .int .i64 (m : Nat)] ∧ RdrAt w r n p c tk s ∧ x ≠ r ∧ ∀ a, p = some a → a.block ≠ x
section
variable {w w' : World} {r n : Nat} {p : Option Addr} {c : Nat} {tk : List Tk} {x : Nat} {s s' : RS} {m : Nat}
theorem CAt.below (h : CAt w r n p c tk x s m) (hb : Below w.heap.size w w') : CAt w' r n p c tk x s m := ⟨h.1.below hb, h.2.1.below hb, h.2.2⟩
theorem CAt.dn (h : CAt w r n p c tk x s m) (k : Nat) : CAt (w.drewN k) r n p c tk x s m := h
theorem CAt.lt (h : CAt w r n p c tk x s m) : x < w.heap.size := h.1.lt
theorem CAt.rd (h : CAt w r n p c tk x s m) (hr : RdrAt w' r n p c tk s') (hg : w.grownBy w' (some r)) : CAt w' r n p c tk x s' m :=
  ⟨h.1.kept hg (fun e => h.2.2.1 (by injection e)), hr, h.2.2⟩
end
theorem RdrAt.kept' {w : World} {r n : Nat} {p : Option Addr} {c : Nat} {tk : List Tk} {s : RS} {x : Nat} (h : RdrAt w r n p c tk s) (hx : x ≠ r ∧ ∀ a, p = some a → a.block ≠ x) {j : Nat} (v : Value) : RdrAt (w.setCell ⟨x, j, none⟩ v) r n p c tk s :=
  ⟨h.1.other (fun e => hx.1 e.symm) v, h.2.1.grownR (grown_setR w x j v) (fun a ha e => hx.2 a ha (by injection e)), h.2.2⟩
theorem ok_any {r n : Nat} {p : Option Addr} {c : Nat} {tk : List Tk} {x : Nat} {s : RS} {m : Nat} (w : World) (h : CAt w r n p c tk x s m) :
    Calls Tryz.prog 81 #[.pointer (some ⟨x, 0, none⟩)] w fun e w' => e = .returned (.bool (okR s)) ∧ Below w.heap.size w w' := by
  have HB := Lib.hid (rbad_any w h.2.1)
  have c0 := h.1.cell 0
  simp only [List.getElem?_cons_zero, List.getElem?_cons_succ] at c0
  have hf := fun (a b : Int) (w : World) => (show (Instr.field 41 (.agg #[.int .i64 a, .int .i64 b]) 0).run Tryz.prog w = .ok (.int .i64 a) w by kernel_rfl)
  have hx := h.lt
  clear h
  go_enter Tryz.func81, Tryz.ntmps81
  go_wp2_with fail
  refine (HB.out).mono ?_
  rintro e w2 ⟨rfl, hb⟩
  have HB2 := Lib.hid hb
  clear hb HB
  have hfc := hf s.code s.at_
  clear hf
  go_wp2_with fail
  go_ret
  refine ⟨?_, HB2.out⟩
  unfold okR
  by_cases hc : s.code = 0 <;> simp [hc]
set_option maxRecDepth 100000 in
set_option maxHeartbeats 1600000 in
theorem more_any {r n : Nat} {p : Option Addr} {c : Nat} {tk : List Tk} {x : Nat} {s : RS} {m : Nat} (w : World) (h : CAt w r n p c tk x s m) (hm : m ≤ 1000) :
    Calls Tryz.prog 82 #[.pointer (some ⟨x, 0, none⟩)] w fun e w' => e = .returned (.tuple #[]) ∧ CAt w' r n p c tk x (moreR tk s m) (m + 1) ∧ G2 r x w w' := by
  have HM := Lib.hid (show moreR tk s m = if 64 < m + 1 then failR tk s 120 else s from rfl)
  have c0 := h.1.cell 0
  have c1 := h.1.cell 1
  have f1 := h.1.free 1
  simp only [List.getElem?_cons_zero, List.getElem?_cons_succ] at c0 c1
  have hwr : IntKind.i64.wrap ((m : Int) + 1) = ((m : Int) + 1) := IntWalk.i64_in _ (by omega)
  have HS := Lib.hid (show CAt (w.setCell ⟨x, 1, none⟩ (.int .i64 ((m : Int) + 1))) r n p c tk x s (m + 1) from
    ⟨by simpa using h.1.set 1 (.int .i64 ((m : Int) + 1)), h.2.1.kept' (h.2.2) _, h.2.2⟩)
  have HG := Lib.hid (G2.ofX (r := r) (grown_setR w x 1 (.int .i64 ((m : Int) + 1))))
  have hx := h.lt
  have d0 := HS.out.1.cell 0
  have d1 := HS.out.1.cell 1
  simp only [List.getElem?_cons_zero, List.getElem?_cons_succ] at d0 d1
  clear h
  by_cases hk : 64 < m + 1
  · have hgi : (64 : Int) < (m : Int) + 1 := by omega
    rw [if_pos hk] at HM
    go_enter Tryz.func82, Tryz.ntmps82
    go_wp2_with fail
    refine (fail_any _ 120 HS.out.2.1).mono ?_
    rintro e w2 ⟨rfl, hr, hg⟩
    have HR := Lib.hid hr
    have HG2 := Lib.hid hg
    clear hr hg
    go_wp2_with fail
    go_end0
    exact ⟨rfl, by rw [HM.out]; exact HS.out.rd HR.out HG2.out, HG.out.trans (G2.ofR HG2.out)⟩
  · have hgi : ¬ (64 : Int) < (m : Int) + 1 := by omega
    rw [if_neg hk] at HM
    go_enter Tryz.func82, Tryz.ntmps82
    go_wp2_with fail
    go_end0
    exact ⟨rfl, by rw [HM.out]; exact HS.out, HG.out⟩
end Go.Proofs.YtcaifejfkpmeeaaGreat
namespace Go.Proofs.YtcaifejfkpmeeaaGreat
open Go.RowKit
set_option linter.unusedVariables false
set_option linter.unusedSimpArgs false

theorem CAt.kept {w w' : World} {r n : Nat} {p : Option Addr} {c : Nat} {tk : List Tk} {x : Nat} {s s' : RS} {m : Nat} (h : CAt w r n p c tk x s m) (hg : w.grownBy w' (some r)) (hb : Blk w' 91 r [.slice p n c, .int .i64 (s'.k : Nat), .int .i64 s'.code, .int .i64 s'.at_]) (hk : s'.k ≤ n) : CAt w' r n p c tk x s' m :=
  h.rd (h.2.1.kept hg hb hk) hg
theorem blk_set6 {w : World} {T : TypeId} {g : Nat} {a b c d e f : Value} (h : Blk w T g [a, b, c, d, e, f]) (x y z u v q : Value) : Blk ((((((w.setCell ⟨g, 0, none⟩ x).setCell ⟨g, 1, none⟩ y).setCell ⟨g, 2, none⟩ z).setCell ⟨g, 3, none⟩ u).setCell ⟨g, 4, none⟩ v).setCell ⟨g, 5, none⟩ q) T g [x, y, z, u, v, q] := by
  simpa using (((((h.set 0 x).set 1 y).set 2 z).set 3 u).set 4 v).set 5 q
theorem blk_other6 {w : World} {T : TypeId} {r g : Nat} {cs : List Value} (h : Blk w T r cs) (hne : r ≠ g) (x y z u v q : Value) : Blk ((((((w.setCell ⟨g, 0, none⟩ x).setCell ⟨g, 1, none⟩ y).setCell ⟨g, 2, none⟩ z).setCell ⟨g, 3, none⟩ u).setCell ⟨g, 4, none⟩ v).setCell ⟨g, 5, none⟩ q) T r cs :=
  (((((h.other (p := ⟨g, 0, none⟩) hne x).other (p := ⟨g, 1, none⟩) hne y).other (p := ⟨g, 2, none⟩) hne z).other (p := ⟨g, 3, none⟩) hne u).other (p := ⟨g, 4, none⟩) hne v).other (p := ⟨g, 5, none⟩) hne q
theorem grown_set1 {w w' : World} {row : Option Nat} {g : Nat} (h : w.grownBy w' row) (hg : w.heap.size ≤ g) (j : Nat) (u : Value) : w.grownBy (w'.setCell ⟨g, j, none⟩ u) row :=
  ⟨h.os, h.tape, h.output, by simpa using h.size, fun k hk hne => (Below.heap_setCell _ _ _ k (by simp; omega)).trans (h.block k hk hne)⟩
theorem grown_set6 {w w' : World} {row : Option Nat} {g : Nat} (h : w.grownBy w' row) (hg : w.heap.size ≤ g) (x y z u v q : Value) : w.grownBy ((((((w'.setCell ⟨g, 0, none⟩ x).setCell ⟨g, 1, none⟩ y).setCell ⟨g, 2, none⟩ z).setCell ⟨g, 3, none⟩ u).setCell ⟨g, 4, none⟩ v).setCell ⟨g, 5, none⟩ q) row :=
  grown_set1 (grown_set1 (grown_set1 (grown_set1 (grown_set1 (grown_set1 h hg 0 x) hg 1 y) hg 2 z) hg 3 u) hg 4 v) hg 5 q
def condA (k c r : Int) (a v : Nat) : Value := .agg #[.int .i64 k, .int .i64 c, .int .i64 r, .int .u64 a, .int .u64 v, .slice none 0 0]
set_option maxRecDepth 100000 in
set_option maxHeartbeats 1600000 in
theorem value_any {r n : Nat} {p : Option Addr} {c : Nat} {tk : List Tk} {x : Nat} {s : RS} {m : Nat} (w : World) (kd co rg : Int) (ad va : Nat) (h : CAt w r n p c tk x s m) :
    Calls Tryz.prog 108 #[.pointer (some ⟨x, 0, none⟩), condA kd co rg ad va] w fun e w' => e = .returned (condA kd co rg ad (valueR tk s).1) ∧ CAt w' r n p c tk x (valueR tk s).2 m ∧ w.grownBy w' (some r) := by
  have HV := Lib.hid (show valueR tk s = numberR tk (mustR tk s 3 ⟨#[61]⟩) from rfl)
  have HB := Lib.hid (show Below w.heap.size w ((w.alloc (.cells #[.int .i64 kd, .int .i64 co, .int .i64 rg, .int .u64 ad, .int .u64 va, .slice none 0 0] 29)).alloc (.cells #[.int .i64 0, .int .i64 0, .int .i64 0, .int .u64 0, .int .u64 0, .slice none 0 0] 29)) from below_alloc (below_alloc (Below.refl _ _) _) _)
  have HN1 := Lib.hid (show Blk ((w.alloc (.cells #[.int .i64 kd, .int .i64 co, .int .i64 rg, .int .u64 ad, .int .u64 va, .slice none 0 0] 29)).alloc (.cells #[.int .i64 0, .int .i64 0, .int .i64 0, .int .u64 0, .int .u64 0, .slice none 0 0] 29)) 29 w.heap.size [.int .i64 kd, .int .i64 co, .int .i64 rg, .int .u64 ad, .int .u64 va, .slice none 0 0] from (Blk.new w _ _).alloc _)
  have HN2 := Lib.hid (show Blk ((w.alloc (.cells #[.int .i64 kd, .int .i64 co, .int .i64 rg, .int .u64 ad, .int .u64 va, .slice none 0 0] 29)).alloc (.cells #[.int .i64 0, .int .i64 0, .int .i64 0, .int .u64 0, .int .u64 0, .slice none 0 0] 29)) 29 (w.heap.size + 1) [.int .i64 0, .int .i64 0, .int .i64 0, .int .u64 0, .int .u64 0, .slice none 0 0] from by simpa using Blk.new (w.alloc (.cells #[.int .i64 kd, .int .i64 co, .int .i64 rg, .int .u64 ad, .int .u64 va, .slice none 0 0] 29)) 29 [.int .i64 0, .int .i64 0, .int .i64 0, .int .u64 0, .int .u64 0, .slice none 0 0])
  have hC := h.below HB.out
  have HC := Lib.hid hC
  have c0 := hC.1.cell 0
  simp only [List.getElem?_cons_zero, List.getElem?_cons_succ] at c0
  have hx := h.lt
  have hrl := h.2.1.lt
  have H0 := Lib.hid h
  have HM := Lib.hid (must_any _ 3 ⟨#[61]⟩ hC.2.1)
  clear h hC
  unfold condA
  go_enter Tryz.func108, Tryz.ntmps108
  go_wp2_with fail
  refine (HM.out).mono ?_
  rintro e w2 ⟨rfl, hr, hg⟩
  have HC2 := Lib.hid (HC.out.rd hr hg)
  have hz2 : w.heap.size + 2 ≤ w2.heap.size := by have := hg.size; simpa using this
  have HN12 := Lib.hid (HN1.out.kept hg (by intro e; injection e; omega))
  have HN22 := Lib.hid (HN2.out.kept hg (by intro e; injection e; omega))
  have HG2 := Lib.hid (grown_thenR (grown_below (row := some r) HB.out) hg)
  clear hr hg HM HC HN1 HN2 HB c0
  have c0 := HC2.out.1.cell 0
  simp only [List.getElem?_cons_zero, List.getElem?_cons_succ] at c0
  have HM := Lib.hid (number_any _ HC2.out.2.1)
  rw [← HV.out] at HM
  generalize valueR tk s = vr at *
  have hx2 : x < w2.heap.size := by omega
  have hw2 : w.heap.size < w2.heap.size := by omega
  go_wp2_with fail
  refine (HM.out).mono ?_
  rintro e w3 ⟨rfl, hr, hg⟩
  have HC3 := Lib.hid (HC2.out.rd hr hg)
  have hz3 : w.heap.size + 2 ≤ w3.heap.size := by have := hg.size; omega
  have HN13 := Lib.hid (HN12.out.kept hg (by intro e; injection e; omega))
  have HN23 := Lib.hid (HN22.out.kept hg (by intro e; injection e; omega))
  have HG3 := Lib.hid (grown_thenR HG2.out hg)
  clear hr hg HM HC2 HN12 HN22 HG2 c0
  have n0 := HN13.out.cell 0
  have n1 := HN13.out.cell 1
  have n2 := HN13.out.cell 2
  have n3 := HN13.out.cell 3
  have n4 := HN13.out.cell 4
  have n5 := HN13.out.cell 5
  have nf4 := HN13.out.free 4
  simp only [List.getElem?_cons_zero, List.getElem?_cons_succ] at n0 n1 n2 n3 n4 n5
  have q0 := HN23.out.cell 0
  have q1 := HN23.out.cell 1
  have q2 := HN23.out.cell 2
  have q3 := HN23.out.cell 3
  have q4 := HN23.out.cell 4
  have q5 := HN23.out.cell 5
  have qf0 := HN23.out.free 0
  have qf1 := HN23.out.free 1
  have qf2 := HN23.out.free 2
  have qf3 := HN23.out.free 3
  have qf4 := HN23.out.free 4
  have qf5 := HN23.out.free 5
  simp only [List.getElem?_cons_zero, List.getElem?_cons_succ] at q0 q1 q2 q3 q4 q5
  have hw3 : w.heap.size < w3.heap.size := by omega
  have hw3' : w.heap.size + 1 < w3.heap.size := by omega
  go_wp2_with fail
  refine bodyPost_ret (results_cell_row rfl _ _ (w.heap.size + 1) 29 #[.int .i64 kd, .int .i64 co, .int .i64 rg, .int .u64 ad, .int .u64 vr.1, .slice none 0 0] (0, 0) _ rfl (blk_set6 (HN23.out.other (p := ⟨w.heap.size, 4, none⟩) (by simp) _) _ _ _ _ _ _) Tryz.underlying29 rfl (by kernel_rfl)) rfl ?_
  have hgf := grown_set6 (grown_set1 HG3.out (Nat.le_refl _) 4 (.int .u64 vr.1)) (show w.heap.size ≤ w.heap.size + 1 by omega) (.int .i64 kd) (.int .i64 co) (.int .i64 rg) (.int .u64 ad) (.int .u64 vr.1) (.slice none 0 0)
  refine ⟨?_, ?_, hgf⟩
  · rw [HV.out]; rfl
  · rw [show valueR tk s = vr from HV.out.symm]
    exact H0.out.kept hgf (blk_other6 (HC3.out.2.1.blk.other (p := ⟨w.heap.size, 4, none⟩) (by simp; omega) _) (by omega) _ _ _ _ _ _) HC3.out.2.1.2.2.2.2.1
end Go.Proofs.YtcaifejfkpmeeaaGreat
