/- desc.Encode: a descriptor's word. -/
import Derived.Test.YtmnojnopejhebaaGreatMgah
import Derived.Test.YtmnojnopejhebaaGreatMgai
import Derived.Test.YtmnojnopejhebaaGreatMgaq
import Derived.Laws.Bits64b
namespace Go.Proofs.YtmnojnopejhebaaGreat
set_option linter.unusedVariables false
set_option linter.unusedSimpArgs false
set_option maxRecDepth 100000
set_option maxHeartbeats 25600000
section
open Go.RowKit
def lab (kind idx : Nat) : Nat := 16 * idx + kind
structure GL (f : Nat → Nat) (L : Nat → Prop) (w w' : World) : Prop where
 os : w'.os = w.os
 tape : w'.tape = w.tape
 output : w'.output = w.output
 size : w.heap.size ≤ w'.heap.size
 block : ∀ i, i < w.heap.size → ¬ L (f i) → w'.heap[i]? = w.heap[i]?
theorem GL.refl (f : Nat → Nat) (L : Nat → Prop) (w : World) : GL f L w w := ⟨rfl, rfl, rfl, Nat.le_refl _, fun _ _ _ => rfl⟩
theorem GL.trans {f f' : Nat → Nat} {L : Nat → Prop} {a b c : World} (h : GL f L a b) (k : GL f' L b c) (hf : ∀ i, i < a.heap.size → f' i = f i) : GL f L a c :=
 ⟨k.os.trans h.os, k.tape.trans h.tape, k.output.trans h.output, Nat.le_trans h.size k.size, fun i hi hl => (k.block i (Nat.lt_of_lt_of_le hi h.size) (by rw [hf i hi]; exact hl)).trans (h.block i hi hl)⟩
theorem GL.mono {f : Nat → Nat} {L L' : Nat → Prop} {a b : World} (h : GL f L a b) (hl : ∀ n, L n → L' n) : GL f L' a b := ⟨h.os, h.tape, h.output, h.size, fun i hi hn => h.block i hi (fun hL => hn (hl _ hL))⟩
theorem GL.ofBelow {f : Nat → Nat} {L : Nat → Prop} {a b : World} (h : Below a.heap.size a b) : GL f L a b := ⟨h.os, h.tape, h.output, h.size, fun i hi _ => h.block i hi⟩
theorem GL.ofRow {f : Nat → Nat} {L : Nat → Prop} {a b : World} {row : Option Nat} (h : a.grownBy b row) (hr : ∀ g, row = some g → L (f g)) : GL f L a b :=
 ⟨h.os, h.tape, h.output, h.size, fun i hi hn => h.block i hi (fun e => hn (hr i e.symm))⟩
theorem GL.set {f : Nat → Nat} {L : Nat → Prop} {a b : World} (h : GL f L a b) {g : Nat} (hg : L (f g)) (j : Nat) (v : Value) : GL f L a (b.setCell ⟨g, j, none⟩ v) :=
 ⟨h.os, h.tape, h.output, by simpa using h.size, fun i hi hn => (Below.heap_setCell b _ v i (fun e => hn (by rw [e]; exact hg))).trans (h.block i hi hn)⟩
def OwnL (w : World) (f : Nat → Nat) (B l : Nat) (e : TypeId) (size : Nat) (v : Value) (n : Nat) (xs : List Value) : Prop := w.ownsRow B e size v n xs ∧ ∀ g, v.ownBlock = some g → f g = l
section
variable {w w' : World} {f f' : Nat → Nat} {B l : Nat} {e : TypeId} {size : Nat} {v : Value} {n : Nat} {xs : List Value}
theorem OwnL.gl {L : Nat → Prop} (h : OwnL w f B l e size v n xs) (hg : GL f L w w') (hl : ¬ L l) : OwnL w' f B l e size v n xs := by
 obtain ⟨⟨h1, h2⟩, h3⟩ := h
 refine ⟨⟨h1, ?_⟩, h3⟩
 rcases h2 with h2 | ⟨g, cap, cur, rfl, hb, hgg, rest⟩
 ·exact .inl h2
 ·have hf := h3 g rfl
  exact .inr ⟨g, cap, cur, rfl, hb, (hg.block g (Array.getElem?_eq_some_iff.1 hgg).1 (by rw [hf]; exact hl)).trans hgg, rest⟩
theorem OwnL.lt (h : OwnL w f B l e size v n xs) : ∀ g, v.ownBlock = some g → B ≤ g ∧ g < w.heap.size := fun g hg => h.1.lt g hg
theorem OwnL.relab (h : OwnL w f B l e size v n xs) (hf : ∀ g, g < w.heap.size → f' g = f g) : OwnL w f' B l e size v n xs :=
 ⟨h.1, fun g hg => by rw [hf g (h.lt g hg).2]; exact h.2 g hg⟩
theorem OwnL.nil (w : World) (f : Nat → Nat) (B l : Nat) (e : TypeId) (size : Nat) : OwnL w f B l e size (.slice none 0 0) 0 [] := ⟨⟨by simp, .inl ⟨rfl, rfl⟩⟩, fun g hg => by simp [Value.ownBlock] at hg⟩
theorem OwnL.app {v' : Value} {m : Nat} {ys : List Value} (h : OwnL w f B l e size v n xs) (hg : w.grownBy w' v.ownBlock) (ho : w'.ownsRow B e size v' m ys) (hk : ∀ k, v'.ownBlock = some k → v.ownBlock = some k ∨ w.heap.size ≤ k) :
  ∃ f', (∀ g, g < w.heap.size → f' g = f g) ∧ OwnL w' f' B l e size v' m ys ∧ GL f (fun n => n = l) w w' := by
 have hG : GL f (fun n => n = l) w w' := GL.ofRow hg (fun g hv => h.2 g hv)
 cases hv : v'.ownBlock with
 | none => exact ⟨f, fun _ _ => rfl, ⟨ho, fun g hg => by rw [hv] at hg; cases hg⟩, hG⟩
 | some k =>
  rcases hk k hv with h1 | h1
  ·exact ⟨f, fun _ _ => rfl, ⟨ho, fun g hg => by rw [hv] at hg; injection hg with hg; subst hg; exact h.2 k h1⟩, hG⟩
  ·refine ⟨fun i => if i = k then l else f i, fun g hgl => if_neg (by omega), ⟨ho, fun g hg => ?_⟩, hG⟩
   rw [hv] at hg; injection hg with hg; subst hg
   exact if_pos rfl
end
theorem Blk.gl {w w' : World} {f : Nat → Nat} {L : Nat → Prop} {T : TypeId} {g : Nat} {cs : List Value} (h : Blk w T g cs) (hg : GL f L w w') (hl : ¬ L (f g)) : Blk w' T g cs := (hg.block g h.lt hl).trans h
def l0o (w : World) (f : Nat → Nat) (B i : Nat) (cv : CoreV) (c : CoreA) : Prop :=
 OwnL w f B (lab 10 i) 26 1 cv.r c.regs.length (c.regs.map u64V) ∧ OwnL w f B (lab 11 i) 91 6 cv.c c.code.length (insL c.code) ∧ OwnL w f B (lab 12 i) 91 6 cv.h c.hand.length (insL c.hand)
structure Sizes (x : SrcA) (n : Nat) : Prop where
 cells : x.cells.length ≤ n
 cores : x.cores.length ≤ n
 tables : x.tables.length ≤ n
 pT : x.pT.length ≤ n
 pC : x.pC.length ≤ n
 pCo : x.pCo.length ≤ n
 pI : x.pI.length ≤ n
 ins : ∀ q ∈ x.pI, q.length ≤ n
 code : ∀ c ∈ x.cores, c.code.length ≤ n ∧ c.hand.length ≤ n ∧ c.regs.length = 31
structure Parts (w : World) (f : Nat → Nat) (B : Nat) (x : SrcA) (v : SrcV) : Prop where
 cells : OwnL w f B (lab 6 0) 79 2 v.vC x.cells.length (cellL x.cells)
 cores : OwnL w f B (lab 7 0) 82 5 v.vCo x.cores.length (e0f v.cvs x.cores)
 lenc : v.cvs.length = x.cores.length
 core : ∀ (i : Nat) (h : i < x.cores.length) (h' : i < v.cvs.length), l0o w f B i v.cvs[i] x.cores[i]
 cond : CT.At w (fun g => f g = lab 8 0 ∧ g < w.heap.size) x.cond (condC v)
 tables : OwnL w f B (lab 1 0) 26 1 v.vT x.tables.length (x.tables.map u64V)
 pT : OwnL w f B (lab 2 0) 3 1 v.vPT x.pT.length (x.pT.map i64V)
 pC : OwnL w f B (lab 3 0) 3 1 v.vPC x.pC.length (x.pC.map i64V)
 pCo : OwnL w f B (lab 4 0) 3 1 v.vPCo x.pCo.length (x.pCo.map i64V)
 pI : OwnL w f B (lab 5 0) 33 1 v.vPI x.pI.length v.ivs
 leni : v.ivs.length = x.pI.length
 ins : ∀ (i : Nat) (h : i < x.pI.length) (h' : i < v.ivs.length), OwnL w f B (lab 13 i) 3 1 v.ivs[i] x.pI[i].length (x.pI[i].map i64V)
structure PartsL (L : Nat → Prop) (w : World) (f : Nat → Nat) (B : Nat) (x : SrcA) (v : SrcV) : Prop where
 cells : ¬ L (lab 6 0) → OwnL w f B (lab 6 0) 79 2 v.vC x.cells.length (cellL x.cells)
 cores : ¬ L (lab 7 0) → OwnL w f B (lab 7 0) 82 5 v.vCo x.cores.length (e0f v.cvs x.cores)
 lenc : v.cvs.length = x.cores.length
 core : ∀ (i : Nat) (h : i < x.cores.length) (h' : i < v.cvs.length),
  (¬ L (lab 10 i) → OwnL w f B (lab 10 i) 26 1 v.cvs[i].r x.cores[i].regs.length (x.cores[i].regs.map u64V)) ∧ (¬ L (lab 11 i) → OwnL w f B (lab 11 i) 91 6 v.cvs[i].c x.cores[i].code.length (insL x.cores[i].code)) ∧ (¬ L (lab 12 i) → OwnL w f B (lab 12 i) 91 6 v.cvs[i].h x.cores[i].hand.length (insL x.cores[i].hand))
 cond : ¬ L (lab 8 0) → CT.At w (fun g => f g = lab 8 0 ∧ g < w.heap.size) x.cond (condC v)
 tables : ¬ L (lab 1 0) → OwnL w f B (lab 1 0) 26 1 v.vT x.tables.length (x.tables.map u64V)
 pT : ¬ L (lab 2 0) → OwnL w f B (lab 2 0) 3 1 v.vPT x.pT.length (x.pT.map i64V)
 pC : ¬ L (lab 3 0) → OwnL w f B (lab 3 0) 3 1 v.vPC x.pC.length (x.pC.map i64V)
 pCo : ¬ L (lab 4 0) → OwnL w f B (lab 4 0) 3 1 v.vPCo x.pCo.length (x.pCo.map i64V)
 pI : ¬ L (lab 5 0) → OwnL w f B (lab 5 0) 33 1 v.vPI x.pI.length v.ivs
 leni : v.ivs.length = x.pI.length
 ins : ∀ (i : Nat) (h : i < x.pI.length) (h' : i < v.ivs.length), ¬ L (lab 13 i) → OwnL w f B (lab 13 i) 3 1 v.ivs[i] x.pI[i].length (x.pI[i].map i64V)
theorem Parts.but {w w' : World} {f f' : Nat → Nat} {B : Nat} {x : SrcA} {v : SrcV} {L : Nat → Prop} (h : Parts w f B x v) (hg : GL f L w w') (hf : ∀ g, g < w.heap.size → f' g = f g) : PartsL L w' f' B x v := by
 have key : ∀ {l : Nat} {e : TypeId} {size : Nat} {v : Value} {n : Nat} {xs : List Value}, OwnL w f B l e size v n xs → ¬ L l → OwnL w' f' B l e size v n xs := fun h hn => by
  have h1 := h.gl hg hn
  exact ⟨h1.1, fun g hv => by rw [hf g (h.lt g hv).2]; exact h1.2 g hv⟩
 refine ⟨key h.cells, key h.cores, h.lenc, fun i h1 h2 => ?_, fun hn => ?_, key h.tables, key h.pT, key h.pC, key h.pCo, key h.pI, h.leni, fun i h1 h2 => key (h.ins i h1 h2)⟩
 ·obtain ⟨a, b, c⟩ := h.core i h1 h2
  exact ⟨key a, key b, key c⟩
 ·refine CT.At.sub (S := fun g => f g = lab 8 0 ∧ g < w.heap.size) (fun g hS _ => ⟨by rw [hf g hS.2]; exact hS.1, Nat.lt_of_lt_of_le hS.2 hg.size⟩) _ _ ?_
  exact CT.At.keep (fun a u hS hc => (World.cell?_of_block (hg.block a.block hS.2 (by rw [hS.1]; exact hn))).trans hc) _ _ h.cond
theorem Parts.gl {w w' : World} {f f' : Nat → Nat} {B : Nat} {x : SrcA} {v : SrcV} {L : Nat → Prop} (h : Parts w f B x v) (hg : GL f L w w') (hf : ∀ g, g < w.heap.size → f' g = f g) (hl : ∀ k i, 1 ≤ k → k ≤ 13 → ¬ L (lab k i)) : Parts w' f' B x v := by
 have p := h.but hg hf
 exact ⟨p.cells (hl 6 0 (by decide) (by decide)), p.cores (hl 7 0 (by decide) (by decide)), p.lenc, fun i h1 h2 => ⟨(p.core i h1 h2).1 (hl 10 i (by decide) (by decide)), (p.core i h1 h2).2.1 (hl 11 i (by decide) (by decide)), (p.core i h1 h2).2.2 (hl 12 i (by decide) (by decide))⟩, p.cond (hl 8 0 (by decide) (by decide)), p.tables (hl 1 0 (by decide) (by decide)), p.pT (hl 2 0 (by decide) (by decide)), p.pC (hl 3 0 (by decide) (by decide)), p.pCo (hl 4 0 (by decide) (by decide)), p.pI (hl 5 0 (by decide) (by decide)), p.leni, fun i h1 h2 => p.ins i h1 h2 (hl 13 i (by decide) (by decide))⟩
theorem l1s (k i l : Nat) (h1 : 1 ≤ k) (h2 : k ≤ 13) (hl : l % 16 = 0 ∨ 14 ≤ l % 16) : ¬ lab k i = l := by unfold lab; omega
structure ST (w : World) (f : Nat → Nat) (B g n : Nat) (x : SrcA) (v : SrcV) : Prop where
 blk : Blk w 111 g (stC x v)
 lg : f g = lab 9 0
 le : B ≤ g
 parts : Parts w f B x v
 sizes : Sizes x n
 small : n ≤ 20000
section
variable {w w' : World} {f f' : Nat → Nat} {B g n : Nat} {x : SrcA} {v : SrcV}
theorem ST.lt (h : ST w f B g n x v) : g < w.heap.size := h.blk.lt
theorem ST.gl {L : Nat → Prop} (h : ST w f B g n x v) (hg : GL f L w w') (hf : ∀ i, i < w.heap.size → f' i = f i) (hl : ∀ l, L l → l % 16 = 0 ∨ 14 ≤ l % 16) : ST w' f' B g n x v :=
 ⟨h.blk.gl hg (by rw [h.lg]; exact fun hL => l1s 9 0 _ (by decide) (by decide) (hl _ hL) rfl), by rw [hf g h.lt]; exact h.lg, h.le, h.parts.gl hg hf (fun k i h1 h2 hL => l1s k i _ h1 h2 (hl _ hL) rfl), h.sizes, h.small⟩
theorem ST.below (h : ST w f B g n x v) (hb : Below w.heap.size w w') : ST w' f B g n x v := h.gl (L := fun _ => False) (GL.ofBelow hb) (fun _ _ => rfl) (fun _ h => h.elim)
theorem ST.rd {r : Nat} (h : ST w f B g n x v) (hg : w.grownBy w' (some r)) (hr : f r = lab 14 0) : ST w' f B g n x v :=
 h.gl (L := fun l => l = lab 14 0) (GL.ofRow hg (fun k hk => by injection hk with hk; subst hk; exact hr)) (fun _ _ => rfl) (fun l hl => by subst hl; right; decide)
theorem ST.put {x' : SrcA} {v' : SrcV} {n' j : Nat} {u : Value} (h : ST w f B g n x v) (hc : stC x' v' = (stC x v).set j u) (hp : Parts w f B x' v') (hs : Sizes x' n') (hn : n' ≤ 20000) : ST (w.setCell ⟨g, j, none⟩ u) f B g n' x' v' := by
 have hG : GL f (fun l => l = lab 9 0) w (w.setCell ⟨g, j, none⟩ u) := (GL.refl f _ w).set h.lg j u
 have p := hp.but (f' := f) hG (fun _ _ => rfl)
 have ne : ∀ k i, 1 ≤ k → k ≤ 13 → k ≠ 9 → ¬ lab k i = lab 9 0 := fun k i h1 h2 h3 => by unfold lab; omega
 exact ⟨by rw [hc]; exact h.blk.set j u, h.lg, h.le, ⟨p.cells (ne 6 0 (by decide) (by decide) (by decide)), p.cores (ne 7 0 (by decide) (by decide) (by decide)), p.lenc, fun i h1 h2 => ⟨(p.core i h1 h2).1 (ne 10 i (by decide) (by decide) (by decide)), (p.core i h1 h2).2.1 (ne 11 i (by decide) (by decide) (by decide)), (p.core i h1 h2).2.2 (ne 12 i (by decide) (by decide) (by decide))⟩, p.cond (ne 8 0 (by decide) (by decide) (by decide)), p.tables (ne 1 0 (by decide) (by decide) (by decide)), p.pT (ne 2 0 (by decide) (by decide) (by decide)), p.pC (ne 3 0 (by decide) (by decide) (by decide)), p.pCo (ne 4 0 (by decide) (by decide) (by decide)), p.pI (ne 5 0 (by decide) (by decide) (by decide)), p.leni, fun i h1 h2 => p.ins i h1 h2 (ne 13 i (by decide) (by decide) (by decide))⟩, hs, hn⟩
end
def RdrL (w : World) (f : Nat → Nat) (r n : Nat) (p : Option Addr) (c : Nat) (tk : List Tk) (s : RS) : Prop := a0y w r n p c tk s ∧ f r = lab 14 0 ∧ ∀ a, p = some a → f a.block = 0 ∧ a.block < w.heap.size
section
variable {w w' : World} {f f' : Nat → Nat} {r n c : Nat} {p : Option Addr} {tk : List Tk} {s s' : RS}
theorem RdrL.step (h : RdrL w f r n p c tk s) (hr : a0y w' r n p c tk s') (hg : w.grownBy w' (some r)) : RdrL w' f r n p c tk s' :=
 ⟨hr, h.2.1, fun a ha => ⟨(h.2.2 a ha).1, Nat.lt_of_lt_of_le (h.2.2 a ha).2 hg.size⟩⟩
theorem RdrL.gl {L : Nat → Prop} (h : RdrL w f r n p c tk s) (hg : GL f L w w') (hf : ∀ i, i < w.heap.size → f' i = f i) (h0 : ¬ L 0) (h14 : ¬ L (lab 14 0)) : RdrL w' f' r n p c tk s := by
 obtain ⟨⟨h1, h2, h3⟩, hr, hp⟩ := h
 refine ⟨⟨h1.gl hg (by rw [hr]; exact h14), ⟨h2.1, fun hn => ?_⟩, h3⟩, by rw [hf r h1.lt]; exact hr, fun a ha => ⟨by rw [hf _ (hp a ha).2]; exact (hp a ha).1, Nat.lt_of_lt_of_le (hp a ha).2 hg.size⟩⟩
 obtain ⟨k, off, hpk, hc⟩ := h2.2 hn
 refine ⟨k, off, hpk, fun j hj => ?_⟩
 rw [← hc j hj]
 exact World.cell?_of_block (hg.block k (hp _ hpk).2 (by rw [(hp _ hpk).1]; exact h0))
theorem RdrL.below (h : RdrL w f r n p c tk s) (hb : Below w.heap.size w w') : RdrL w' f r n p c tk s := h.gl (L := fun _ => False) (GL.ofBelow hb) (fun _ _ => rfl) (fun h => h) (fun h => h)
theorem RdrL.pw (h : RdrL w f r n p c tk s) : ∀ a, p = some a → a.block < w.heap.size := fun a ha => (h.2.2 a ha).2
theorem RdrL.set {g : Nat} (h : RdrL w f r n p c tk s) (hg : f g = lab 9 0) (j : Nat) (u : Value) : RdrL (w.setCell ⟨g, j, none⟩ u) f r n p c tk s :=
 h.gl (L := fun l => l = lab 9 0) ((GL.refl f _ w).set hg j u) (fun _ _ => rfl) (by decide) (by decide)
end
def d0d (w : World) (f : Nat → Nat) (B g n r tn : Nat) (p : Option Addr) (c : Nat) (tk : List Tk) (y : SrcA × RS) (e : Ending) (w' : World) : Prop :=
 e = .returned (.tuple #[]) ∧ ∃ f' v', ST w' f' B g n y.1 v' ∧ RdrL w' f' r tn p c tk y.2 ∧ (∀ i, i < w.heap.size → f' i = f i) ∧ GL f (fun l => l ≠ 0) w w'
end
section
open Go.RowKit
theorem p0n {r n : Nat} {p : Option Addr} {c : Nat} {tk : List Tk} {s : RS} (w : World) (x y : Int) (h : a0y w r n p c tk s) :
  Calls Tryz.prog 134 #[.pointer (some ⟨r, 0, none⟩), .agg #[.int .i64 x, .int .i64 y]] w fun e w' => e = .returned (.tuple #[]) ∧ a0y w' r n p c tk (e0b s x y) ∧ w.grownBy w' (some r) := by
 have HB := h_ (show Below w.heap.size w (w.alloc (.cells #[.int .i64 x, .int .i64 y] 41)) from bl_ (Below.refl _ _) _)
 have hr := h.below HB.out
 have HR := h_ hr
 have hrl := h.lt
 have c2 := h.blk.cell 2
 have c3 := h.blk.cell 3
 have f2 := h.blk.free 2
 have f3 := h.blk.free 3
 simp only [gz_, gs_] at c2 c3
 have HRS := h_ (show Blk (((w.setCell ⟨r, 2, none⟩ (.int .i64 x)).setCell ⟨r, 3, none⟩ (.int .i64 y)).alloc (.cells #[.int .i64 x, .int .i64 y] 41)) 172 r [.slice p n c, .int .i64 (s.k : Nat), .int .i64 x, .int .i64 y] from by simpa using ((h.blk.set 2 (.int .i64 x)).set 3 (.int .i64 y)).alloc _)
 have HGS := h_ (a0a (a0a (a0r w r 2 (.int .i64 x)) (a0r _ r 3 (.int .i64 y))) (World.grownBy_alloc _ (.cells #[.int .i64 x, .int .i64 y] 41) (some r)))
 have H0 := h_ h
 have HNX := h_ (show (s.code = 0 → e0b s x y = { s with code := x, at_ := y }) ∧ (¬ s.code = 0 → e0b s x y = s) from ⟨fun e => by unfold e0b; rw [if_pos e], fun e => by unfold e0b; rw [if_neg e]⟩)
 clear h hr
 by_cases hk : s.code = 0
 ·have HX := h_ (HNX.out.1 hk)
  rw [hk] at c2
  clear hk
  go_enter Tryz.func134, Tryz.ntmps134
  go_wp2_with fail
  go_end0
  exact ⟨rfl, by rw [HX.out]; exact H0.out.kept HGS.out HRS.out H0.out.2.2.2.2.1, HGS.out⟩
 ·have HX := h_ (HNX.out.2 hk)
  have hkb : (s.code == 0) = false := by simpa using hk
  go_enter Tryz.func134, Tryz.ntmps134
  go_wp2_with fail
  go_end0
  exact ⟨rfl, by rw [HX.out]; exact HR.out, a0b HB.out⟩
theorem e0k {t : ByteArray} {l : List UInt8} (h : ¬ t = ⟨l.toArray⟩) : (t.toList == l) = false := by
 rw [beq_eq_false_iff_ne]
 intro e
 apply h
 rw [e0v] at e
 exact ByteArray.ext (by simp [← e])
theorem w0a (t : ByteArray) (w : World) : Calls Tryz.prog 87 #[.string t] w fun e w' => e = .returned (.bool (keyB t)) ∧ w = w' := by
 by_cases h0 : t = j0i
 ·subst h0
  go_enter Tryz.func87, Tryz.ntmps87
  unfold j0i
  go_wp2
  go_ret
  exact ⟨rfl, rfl⟩
 have m0 : (t.toList == ([116, 101, 115, 116] : List UInt8)) = false := e0k h0
 by_cases h1 : t = h0a
 ·subst h1
  go_enter Tryz.func87, Tryz.ntmps87
  unfold h0a
  go_wp2
  go_ret
  exact ⟨rfl, rfl⟩
 have m1 : (t.toList == ([116, 97, 98, 108, 101] : List UInt8)) = false := e0k h1
 by_cases h2 : t = y0s
 ·subst h2
  go_enter Tryz.func87, Tryz.ntmps87
  unfold y0s
  go_wp2
  go_ret
  exact ⟨rfl, rfl⟩
 have m2 : (t.toList == ([99, 101, 108, 108] : List UInt8)) = false := e0k h2
 by_cases h3 : t = y0r
 ·subst h3
  go_enter Tryz.func87, Tryz.ntmps87
  unfold y0r
  go_wp2
  go_ret
  exact ⟨rfl, rfl⟩
 have m3 : (t.toList == ([99, 111, 114, 101] : List UInt8)) = false := e0k h3
 by_cases h4 : t = wReg
 ·subst h4
  go_enter Tryz.func87, Tryz.ntmps87
  unfold wReg
  go_wp2
  go_ret
  exact ⟨rfl, rfl⟩
 have m4 : (t.toList == ([114, 101, 103] : List UInt8)) = false := e0k h4
 by_cases h5 : t = k0t
 ·subst h5
  go_enter Tryz.func87, Tryz.ntmps87
  unfold k0t
  go_wp2
  go_ret
  exact ⟨rfl, rfl⟩
 have m5 : (t.toList == ([104, 97, 110, 100, 108, 101, 114] : List UInt8)) = false := e0k h5
 by_cases h6 : t = r0o
 ·subst h6
  go_enter Tryz.func87, Tryz.ntmps87
  unfold r0o
  go_wp2
  go_ret
  exact ⟨rfl, rfl⟩
 have m6 : (t.toList == ([101, 120, 105, 115, 116, 115] : List UInt8)) = false := e0k h6
 by_cases h7 : t = o0q
 ·subst h7
  go_enter Tryz.func87, Tryz.ntmps87
  unfold o0q
  go_wp2
  go_ret
  exact ⟨rfl, rfl⟩
 have m7 : (t.toList == ([102, 111, 114, 97, 108, 108] : List UInt8)) = false := e0k h7
 have H := h_ (show keyB t = false by unfold keyB; simp [h0, h1, h2, h3, h4, h5, h6, h7])
 clear h0 h1 h2 h3 h4 h5 h6 h7
 go_enter Tryz.func87, Tryz.ntmps87
 go_wp2
 go_ret
 exact ⟨by rw [H.out]; rfl, rfl⟩
end
section
open Go.RowKit
theorem wrapN (m : Nat) (h : m < 18446744073709551616) : IntKind.u64.wrap (m : Int) = (m : Int) := by rw [IntKind.wrap_u64]; omega
theorem f0s (table : Bool) (level : Nat) (w : World) : Calls Tryz.prog 183 #[.bool table, .int .i64 level] w fun e w' => e = .returned (.int .i64 (d0q table level : Nat)) ∧ w = w' := by
 by_cases h : level = 1
 ·subst h
  cases table
  ·go_enter Tryz.func183, Tryz.ntmps183
   go_wp2
   go_ret
   exact ⟨rfl, rfl⟩
  ·go_enter Tryz.func183, Tryz.ntmps183
   go_wp2
   go_ret
   exact ⟨rfl, rfl⟩
 ·have hb : ((level : Int) == 1) = false := beq_eq_false_iff_ne.2 (by omega)
  have H := h_ (show d0q table level = 12 by unfold d0q; rw [if_neg (fun h1 => h h1.1)])
  clear h
  go_enter Tryz.func183, Tryz.ntmps183
  go_wp2
  go_ret
  exact ⟨by rw [H.out]; rfl, rfl⟩
theorem e0i (b : Bool) (n : Nat) (hn : n < 64) (w : World) : Calls Tryz.prog 169 #[.bool b, .int .i64 n] w fun e w' => e = .returned (.int .u64 (k0c b n : Nat)) ∧ w = w' := by
 cases b
 ·go_enter Tryz.func169, Tryz.ntmps169
  go_wp2
  go_ret
  exact ⟨rfl, rfl⟩
 ·have h0 : (0 : Int) ≤ n := by omega
  have h1 : (n : Int) < 64 := by omega
  have H := h_ (show IntKind.u64.wrap (2 ^ n) = ((2 ^ n : Nat) : Int) from by
   have h2 : 2 ^ n < 18446744073709551616 := by
    have : (2 : Nat) ^ n < 2 ^ 64 := Nat.pow_lt_pow_right (by decide) hn
    simpa using this
   rw [show ((2 : Int) ^ n) = ((2 ^ n : Nat) : Int) by simp]; exact wrapN _ h2)
  go_enter Tryz.func169, Tryz.ntmps169
  go_wp2
  go_ret
  exact ⟨by rw [H.out]; rfl, rfl⟩
def checkN (out : Nat) (t : Bool) (l : Nat) : Int := if out < 4294967296 ∧ out % 2 ^ d0q t l = 0 then 0 else 70
abbrev u0g (table : Bool) (out : Nat) (used ro user own : Bool) : Value := .agg #[.bool true, .bool table, .int .u64 out, .bool used, .bool ro, .bool user, .bool own]
theorem w0i {table : Bool} {out level : Nat} (used ro user own : Bool) (h : out < 4294967296) (ha : out % 2 ^ d0q table level = 0) : encD table out used ro user own level = ((out ||| 1 ||| k0c (table || decide (level = 2)) 1) ||| (((k0c used 10 ||| k0c ro 7) ||| k0c user 6) ||| k0c own 11), 0) := by
 unfold encD; rw [if_neg (by omega)]
theorem f1r {table : Bool} {out level : Nat} (used ro user own : Bool) (h : ¬ (out < 4294967296 ∧ out % 2 ^ d0q table level = 0)) : encD table out used ro user own level = (0, 70) := by
 unfold encD; rw [if_pos (by omega)]
theorem f0m (b : Bool) (n : Nat) (hn : n < 64) : k0c b n < 18446744073709551616 := by
 unfold k0c; split
 ·have : (2 : Nat) ^ n < 2 ^ 64 := Nat.pow_lt_pow_right (by decide) hn
  simpa using this
 ·decide
theorem or64 (x y : Nat) (hx : x < 18446744073709551616) (hy : y < 18446744073709551616) : x ||| y < 18446744073709551616 := Nat.or_lt_two_pow (n := 64) hx hy
theorem k1l (out : Nat) (w : World) (ho : out < 18446744073709551616) :
  Calls Tryz.prog 168 #[u0g true out false false false false, .int .i64 1] w fun e w' => e = .returned (.int .i64 (checkN out true 1)) ∧ Below w.heap.size w w' := by
 have HB := h_ (bl_ (Below.refl w.heap.size w) (.cells #[.bool true, .bool true, .int .u64 out, .bool false, .bool false, .bool false, .bool false] 196))
 have HAL := h_ (fun w1 => e0y (out : Int) (d0q true 1 : Nat) w1 (by omega))
 have HE := h_ (show c0k (out : Int) (d0q true 1 : Nat) = decide (out % 2 ^ d0q true 1 = 0) by unfold c0k; rw [Int.toNat_natCast, Int.toNat_natCast])
 have hsh : d0q true 1 = 12 := by decide
 have HCK := h_ (show checkN out true 1 = if out < 4294967296 ∧ out % 2 ^ d0q true 1 = 0 then 0 else 70 from rfl)
 by_cases h1 : out < 4294967296
 ·have h1i : decide ((4294967296 : Int) ≤ (out : Int)) = false := decide_eq_false (by omega)
  cases h2 : decide (out % 2 ^ d0q true 1 = 0)
  ·have HN := h_ (show checkN out true 1 = 70 by rw [HCK.out, if_neg (fun h => (of_decide_eq_false h2) h.2)])
   rw [h2] at HE
   rw [HE.out] at HAL
   simp only [hsh] at HAL
   clear h2 HE hsh
   go_enter Tryz.func168, Tryz.ntmps168
   go_wp2_with fail
   go_quiet ((first | (go_at_call 183; exact (f0s true 1 _).mono (fun e w' h => ⟨h.1, _, h.2.symm⟩)) | (go_at_call 70; exact quiet_of (HAL.out _))))
   go_wp2_with fail
   go_ret
   exact ⟨b0u (by rw [HN.out]), bd_ HB.out _⟩
  ·have HN := h_ (show checkN out true 1 = 0 by rw [HCK.out, if_pos ⟨h1, of_decide_eq_true h2⟩])
   rw [h2] at HE
   rw [HE.out] at HAL
   simp only [hsh] at HAL
   clear h2 HE hsh
   go_enter Tryz.func168, Tryz.ntmps168
   go_wp2_with fail
   go_quiet ((first | (go_at_call 183; exact (f0s true 1 _).mono (fun e w' h => ⟨h.1, _, h.2.symm⟩)) | (go_at_call 70; exact quiet_of (HAL.out _))))
   go_wp2_with fail
   go_ret
   exact ⟨b0u (by rw [HN.out]), bd_ HB.out _⟩
 ·have h1i : decide ((4294967296 : Int) ≤ (out : Int)) = true := decide_eq_true (by omega)
  clear HE hsh
  go_enter Tryz.func168, Tryz.ntmps168
  go_wp2_with fail
  go_quiet ((first | (go_at_call 183; exact (f0s true 1 _).mono (fun e w' h => ⟨h.1, _, h.2.symm⟩)) | (go_at_call 70; exact quiet_of (HAL.out _))))
  go_wp2_with fail
  go_ret
  exact ⟨b0u (by rw [HCK.out, if_neg (fun h => h1 h.1)]), bd_ HB.out _⟩
theorem k1o (out : Nat) (used ro user own : Bool) (w : World) (ho : out < 18446744073709551616) :
  Calls Tryz.prog 168 #[u0g false out used ro user own, .int .i64 1] w fun e w' => e = .returned (.int .i64 (checkN out false 1)) ∧ Below w.heap.size w w' := by
 have HB := h_ (bl_ (Below.refl w.heap.size w) (.cells #[.bool true, .bool false, .int .u64 out, .bool used, .bool ro, .bool user, .bool own] 196))
 have HAL := h_ (fun w1 => e0y (out : Int) (d0q false 1 : Nat) w1 (by omega))
 have HE := h_ (show c0k (out : Int) (d0q false 1 : Nat) = decide (out % 2 ^ d0q false 1 = 0) by unfold c0k; rw [Int.toNat_natCast, Int.toNat_natCast])
 have hsh : d0q false 1 = 21 := by decide
 have HCK := h_ (show checkN out false 1 = if out < 4294967296 ∧ out % 2 ^ d0q false 1 = 0 then 0 else 70 from rfl)
 by_cases h1 : out < 4294967296
 ·have h1i : decide ((4294967296 : Int) ≤ (out : Int)) = false := decide_eq_false (by omega)
  cases h2 : decide (out % 2 ^ d0q false 1 = 0)
  ·have HN := h_ (show checkN out false 1 = 70 by rw [HCK.out, if_neg (fun h => (of_decide_eq_false h2) h.2)])
   rw [h2] at HE
   rw [HE.out] at HAL
   simp only [hsh] at HAL
   clear h2 HE hsh
   go_enter Tryz.func168, Tryz.ntmps168
   go_wp2_with fail
   go_quiet ((first | (go_at_call 183; exact (f0s false 1 _).mono (fun e w' h => ⟨h.1, _, h.2.symm⟩)) | (go_at_call 70; exact quiet_of (HAL.out _))))
   go_wp2_with fail
   go_ret
   exact ⟨b0u (by rw [HN.out]), bd_ HB.out _⟩
  ·have HN := h_ (show checkN out false 1 = 0 by rw [HCK.out, if_pos ⟨h1, of_decide_eq_true h2⟩])
   rw [h2] at HE
   rw [HE.out] at HAL
   simp only [hsh] at HAL
   clear h2 HE hsh
   go_enter Tryz.func168, Tryz.ntmps168
   go_wp2_with fail
   go_quiet ((first | (go_at_call 183; exact (f0s false 1 _).mono (fun e w' h => ⟨h.1, _, h.2.symm⟩)) | (go_at_call 70; exact quiet_of (HAL.out _))))
   go_wp2_with fail
   go_ret
   exact ⟨b0u (by rw [HN.out]), bd_ HB.out _⟩
 ·have h1i : decide ((4294967296 : Int) ≤ (out : Int)) = true := decide_eq_true (by omega)
  clear HE hsh
  go_enter Tryz.func168, Tryz.ntmps168
  go_wp2_with fail
  go_quiet ((first | (go_at_call 183; exact (f0s false 1 _).mono (fun e w' h => ⟨h.1, _, h.2.symm⟩)) | (go_at_call 70; exact quiet_of (HAL.out _))))
  go_wp2_with fail
  go_ret
  exact ⟨b0u (by rw [HCK.out, if_neg (fun h => h1 h.1)]), bd_ HB.out _⟩
theorem k1m (out : Nat) (used ro user own : Bool) (w : World) (ho : out < 18446744073709551616) :
  Calls Tryz.prog 168 #[u0g false out used ro user own, .int .i64 2] w fun e w' => e = .returned (.int .i64 (checkN out false 2)) ∧ Below w.heap.size w w' := by
 have HB := h_ (bl_ (Below.refl w.heap.size w) (.cells #[.bool true, .bool false, .int .u64 out, .bool used, .bool ro, .bool user, .bool own] 196))
 have HAL := h_ (fun w1 => e0y (out : Int) (d0q false 2 : Nat) w1 (by omega))
 have HE := h_ (show c0k (out : Int) (d0q false 2 : Nat) = decide (out % 2 ^ d0q false 2 = 0) by unfold c0k; rw [Int.toNat_natCast, Int.toNat_natCast])
 have hsh : d0q false 2 = 12 := by decide
 have HCK := h_ (show checkN out false 2 = if out < 4294967296 ∧ out % 2 ^ d0q false 2 = 0 then 0 else 70 from rfl)
 by_cases h1 : out < 4294967296
 ·have h1i : decide ((4294967296 : Int) ≤ (out : Int)) = false := decide_eq_false (by omega)
  cases h2 : decide (out % 2 ^ d0q false 2 = 0)
  ·have HN := h_ (show checkN out false 2 = 70 by rw [HCK.out, if_neg (fun h => (of_decide_eq_false h2) h.2)])
   rw [h2] at HE
   rw [HE.out] at HAL
   simp only [hsh] at HAL
   clear h2 HE hsh
   go_enter Tryz.func168, Tryz.ntmps168
   go_wp2_with fail
   go_quiet ((first | (go_at_call 183; exact (f0s false 2 _).mono (fun e w' h => ⟨h.1, _, h.2.symm⟩)) | (go_at_call 70; exact quiet_of (HAL.out _))))
   go_wp2_with fail
   go_ret
   exact ⟨b0u (by rw [HN.out]), bd_ HB.out _⟩
  ·have HN := h_ (show checkN out false 2 = 0 by rw [HCK.out, if_pos ⟨h1, of_decide_eq_true h2⟩])
   rw [h2] at HE
   rw [HE.out] at HAL
   simp only [hsh] at HAL
   clear h2 HE hsh
   go_enter Tryz.func168, Tryz.ntmps168
   go_wp2_with fail
   go_quiet ((first | (go_at_call 183; exact (f0s false 2 _).mono (fun e w' h => ⟨h.1, _, h.2.symm⟩)) | (go_at_call 70; exact quiet_of (HAL.out _))))
   go_wp2_with fail
   go_ret
   exact ⟨b0u (by rw [HN.out]), bd_ HB.out _⟩
 ·have h1i : decide ((4294967296 : Int) ≤ (out : Int)) = true := decide_eq_true (by omega)
  clear HE hsh
  go_enter Tryz.func168, Tryz.ntmps168
  go_wp2_with fail
  go_quiet ((first | (go_at_call 183; exact (f0s false 2 _).mono (fun e w' h => ⟨h.1, _, h.2.symm⟩)) | (go_at_call 70; exact quiet_of (HAL.out _))))
  go_wp2_with fail
  go_ret
  exact ⟨b0u (by rw [HCK.out, if_neg (fun h => h1 h.1)]), bd_ HB.out _⟩
theorem enc_t1 (out : Nat) (w : World) (ho : out < 18446744073709551616) :
  Calls Tryz.prog 150 #[u0g true out false false false false, .int .i64 1] w fun e w' => e = .returned (.tuple #[.int .u64 (encD true out false false false false 1).1, .int .i64 (encD true out false false false false 1).2]) ∧ Below w.heap.size w w' := by
 have HB := h_ (bl_ (Below.refl w.heap.size w) (.cells #[.bool true, .bool true, .int .u64 out, .bool false, .bool false, .bool false, .bool false] 196))
 have HX := h_ (show Blk (w.alloc (.cells #[.bool true, .bool true, .int .u64 out, .bool false, .bool false, .bool false, .bool false] 196)) 196 w.heap.size [.bool true, .bool true, .int .u64 out, .bool false, .bool false, .bool false, .bool false] from Blk.new w _ _)
 have HC := h_ (fun w1 => k1l out  w1 ho)
 by_cases hk : out < 4294967296 ∧ out % 2 ^ d0q true 1 = 0
 ·have HE := h_ (w0i (table := true) (level := 1) false false false false hk.1 hk.2)
  rw [show checkN out true 1 = 0 from if_pos hk] at HC
  have f1 := f0m (true || decide (1 = 2)) 1 (by decide)
  have f2 := f0m false 10 (by decide)
  have f3 := f0m false 7 (by decide)
  have f4 := f0m false 6 (by decide)
  have f5 := f0m false 11 (by decide)
  have g1 := or64 _ _ ho (show 1 < 18446744073709551616 by decide)
  have g2 := or64 _ _ g1 f1
  have g3 := or64 _ _ f2 f3
  have g4 := or64 _ _ g3 f4
  have g5 := or64 _ _ g4 f5
  have o1 : bits BinOp.or IntKind.u64 (out : Int) 1 = ((out ||| 1 : Nat) : Int) := bits_or_u64_nat out 1 ho (by decide)
  have o2 := bits_or_u64_nat _ _ g1 f1
  have o3 := bits_or_u64_nat _ _ f2 f3
  have o4 := bits_or_u64_nat _ _ g3 f4
  have o5 := bits_or_u64_nat _ _ g4 f5
  have o6 := bits_or_u64_nat _ _ g2 g5
  clear hk f1 f2 f3 f4 f5 g1 g2 g3 g4 g5
  have HF1 := h_ (fun w1 => e0i (true || decide (1 = 2)) 1 (by decide) w1)
  generalize k0c (true || decide (1 = 2)) 1 = F1 at *
  go_enter Tryz.func150, Tryz.ntmps150
  go_wp2_with fail
  refine (HC.out _).mono ?_
  rintro e w2 ⟨rfl, hb⟩
  have HB2 := h_ (bt_ HB.out hb)
  have HX2 := h_ (HX.out.below hb)
  have hl2 := HX2.out.lt
  have c0 := HX2.out.cell 0
  have c1 := HX2.out.cell 1
  have c2 := HX2.out.cell 2
  have c3 := HX2.out.cell 3
  have c4 := HX2.out.cell 4
  have c5 := HX2.out.cell 5
  have c6 := HX2.out.cell 6
  simp only [gz_, gs_] at c0 c1 c2 c3 c4 c5 c6
  clear hb HX HB
  go_wp2_with fail
  refine (HF1.out _).mono ?_
  rintro e w3 ⟨rfl, rfl⟩
  go_wp2_with fail
  go_quiet ((first | (go_at_call 169; exact (e0i false 10 (by decide) _).mono (fun e w' h => ⟨h.1, _, h.2.symm⟩)) | (go_at_call 169; exact (e0i false 7 (by decide) _).mono (fun e w' h => ⟨h.1, _, h.2.symm⟩)) | (go_at_call 169; exact (e0i false 6 (by decide) _).mono (fun e w' h => ⟨h.1, _, h.2.symm⟩)) | (go_at_call 169; exact (e0i false 11 (by decide) _).mono (fun e w' h => ⟨h.1, _, h.2.symm⟩))))
  go_wp2_with fail
  go_ret2
  exact ⟨by rw [HE.out]; rfl, bd_ HB2.out _⟩
 ·have HE := h_ (f1r (table := true) (level := 1) false false false false hk)
  rw [show checkN out true 1 = 70 from if_neg hk] at HC
  clear hk
  go_enter Tryz.func150, Tryz.ntmps150
  go_wp2_with fail
  refine (HC.out _).mono ?_
  rintro e w2 ⟨rfl, hb⟩
  have HB2 := h_ (bt_ HB.out hb)
  clear hb
  go_wp2_with fail
  go_ret2
  exact ⟨by rw [HE.out]; rfl, HB2.out⟩
theorem enc_b1 (out : Nat) (used ro user own : Bool) (w : World) (ho : out < 18446744073709551616) :
  Calls Tryz.prog 150 #[u0g false out used ro user own, .int .i64 1] w fun e w' => e = .returned (.tuple #[.int .u64 (encD false out used ro user own 1).1, .int .i64 (encD false out used ro user own 1).2]) ∧ Below w.heap.size w w' := by
 have HB := h_ (bl_ (Below.refl w.heap.size w) (.cells #[.bool true, .bool false, .int .u64 out, .bool used, .bool ro, .bool user, .bool own] 196))
 have HX := h_ (show Blk (w.alloc (.cells #[.bool true, .bool false, .int .u64 out, .bool used, .bool ro, .bool user, .bool own] 196)) 196 w.heap.size [.bool true, .bool false, .int .u64 out, .bool used, .bool ro, .bool user, .bool own] from Blk.new w _ _)
 have HC := h_ (fun w1 => k1o out used ro user own w1 ho)
 by_cases hk : out < 4294967296 ∧ out % 2 ^ d0q false 1 = 0
 ·have HE := h_ (w0i (table := false) (level := 1) used ro user own hk.1 hk.2)
  rw [show checkN out false 1 = 0 from if_pos hk] at HC
  have f1 := f0m (false || decide (1 = 2)) 1 (by decide)
  have f2 := f0m used 10 (by decide)
  have f3 := f0m ro 7 (by decide)
  have f4 := f0m user 6 (by decide)
  have f5 := f0m own 11 (by decide)
  have g1 := or64 _ _ ho (show 1 < 18446744073709551616 by decide)
  have g2 := or64 _ _ g1 f1
  have g3 := or64 _ _ f2 f3
  have g4 := or64 _ _ g3 f4
  have g5 := or64 _ _ g4 f5
  have o1 : bits BinOp.or IntKind.u64 (out : Int) 1 = ((out ||| 1 : Nat) : Int) := bits_or_u64_nat out 1 ho (by decide)
  have o2 := bits_or_u64_nat _ _ g1 f1
  have o3 := bits_or_u64_nat _ _ f2 f3
  have o4 := bits_or_u64_nat _ _ g3 f4
  have o5 := bits_or_u64_nat _ _ g4 f5
  have o6 := bits_or_u64_nat _ _ g2 g5
  clear hk f1 f2 f3 f4 f5 g1 g2 g3 g4 g5
  have HF1 := h_ (fun w1 => e0i (false || decide (1 = 2)) 1 (by decide) w1)
  generalize k0c (false || decide (1 = 2)) 1 = F1 at *
  go_enter Tryz.func150, Tryz.ntmps150
  go_wp2_with fail
  refine (HC.out _).mono ?_
  rintro e w2 ⟨rfl, hb⟩
  have HB2 := h_ (bt_ HB.out hb)
  have HX2 := h_ (HX.out.below hb)
  have hl2 := HX2.out.lt
  have c0 := HX2.out.cell 0
  have c1 := HX2.out.cell 1
  have c2 := HX2.out.cell 2
  have c3 := HX2.out.cell 3
  have c4 := HX2.out.cell 4
  have c5 := HX2.out.cell 5
  have c6 := HX2.out.cell 6
  simp only [gz_, gs_] at c0 c1 c2 c3 c4 c5 c6
  clear hb HX HB
  go_wp2_with fail
  refine (HF1.out _).mono ?_
  rintro e w3 ⟨rfl, rfl⟩
  go_wp2_with fail
  go_quiet ((first | (go_at_call 169; exact (e0i used 10 (by decide) _).mono (fun e w' h => ⟨h.1, _, h.2.symm⟩)) | (go_at_call 169; exact (e0i ro 7 (by decide) _).mono (fun e w' h => ⟨h.1, _, h.2.symm⟩)) | (go_at_call 169; exact (e0i user 6 (by decide) _).mono (fun e w' h => ⟨h.1, _, h.2.symm⟩)) | (go_at_call 169; exact (e0i own 11 (by decide) _).mono (fun e w' h => ⟨h.1, _, h.2.symm⟩))))
  go_wp2_with fail
  go_ret2
  exact ⟨by rw [HE.out]; rfl, bd_ HB2.out _⟩
 ·have HE := h_ (f1r (table := false) (level := 1) used ro user own hk)
  rw [show checkN out false 1 = 70 from if_neg hk] at HC
  clear hk
  go_enter Tryz.func150, Tryz.ntmps150
  go_wp2_with fail
  refine (HC.out _).mono ?_
  rintro e w2 ⟨rfl, hb⟩
  have HB2 := h_ (bt_ HB.out hb)
  clear hb
  go_wp2_with fail
  go_ret2
  exact ⟨by rw [HE.out]; rfl, HB2.out⟩
theorem enc_p2 (out : Nat) (used ro user own : Bool) (w : World) (ho : out < 18446744073709551616) :
  Calls Tryz.prog 150 #[u0g false out used ro user own, .int .i64 2] w fun e w' => e = .returned (.tuple #[.int .u64 (encD false out used ro user own 2).1, .int .i64 (encD false out used ro user own 2).2]) ∧ Below w.heap.size w w' := by
 have HB := h_ (bl_ (Below.refl w.heap.size w) (.cells #[.bool true, .bool false, .int .u64 out, .bool used, .bool ro, .bool user, .bool own] 196))
 have HX := h_ (show Blk (w.alloc (.cells #[.bool true, .bool false, .int .u64 out, .bool used, .bool ro, .bool user, .bool own] 196)) 196 w.heap.size [.bool true, .bool false, .int .u64 out, .bool used, .bool ro, .bool user, .bool own] from Blk.new w _ _)
 have HC := h_ (fun w1 => k1m out used ro user own w1 ho)
 by_cases hk : out < 4294967296 ∧ out % 2 ^ d0q false 2 = 0
 ·have HE := h_ (w0i (table := false) (level := 2) used ro user own hk.1 hk.2)
  rw [show checkN out false 2 = 0 from if_pos hk] at HC
  have f1 := f0m (false || decide (2 = 2)) 1 (by decide)
  have f2 := f0m used 10 (by decide)
  have f3 := f0m ro 7 (by decide)
  have f4 := f0m user 6 (by decide)
  have f5 := f0m own 11 (by decide)
  have g1 := or64 _ _ ho (show 1 < 18446744073709551616 by decide)
  have g2 := or64 _ _ g1 f1
  have g3 := or64 _ _ f2 f3
  have g4 := or64 _ _ g3 f4
  have g5 := or64 _ _ g4 f5
  have o1 : bits BinOp.or IntKind.u64 (out : Int) 1 = ((out ||| 1 : Nat) : Int) := bits_or_u64_nat out 1 ho (by decide)
  have o2 := bits_or_u64_nat _ _ g1 f1
  have o3 := bits_or_u64_nat _ _ f2 f3
  have o4 := bits_or_u64_nat _ _ g3 f4
  have o5 := bits_or_u64_nat _ _ g4 f5
  have o6 := bits_or_u64_nat _ _ g2 g5
  clear hk f1 f2 f3 f4 f5 g1 g2 g3 g4 g5
  have HF1 := h_ (fun w1 => e0i (false || decide (2 = 2)) 1 (by decide) w1)
  generalize k0c (false || decide (2 = 2)) 1 = F1 at *
  go_enter Tryz.func150, Tryz.ntmps150
  go_wp2_with fail
  refine (HC.out _).mono ?_
  rintro e w2 ⟨rfl, hb⟩
  have HB2 := h_ (bt_ HB.out hb)
  have HX2 := h_ (HX.out.below hb)
  have hl2 := HX2.out.lt
  have c0 := HX2.out.cell 0
  have c1 := HX2.out.cell 1
  have c2 := HX2.out.cell 2
  have c3 := HX2.out.cell 3
  have c4 := HX2.out.cell 4
  have c5 := HX2.out.cell 5
  have c6 := HX2.out.cell 6
  simp only [gz_, gs_] at c0 c1 c2 c3 c4 c5 c6
  clear hb HX HB
  go_wp2_with fail
  refine (HF1.out _).mono ?_
  rintro e w3 ⟨rfl, rfl⟩
  go_wp2_with fail
  go_quiet ((first | (go_at_call 169; exact (e0i used 10 (by decide) _).mono (fun e w' h => ⟨h.1, _, h.2.symm⟩)) | (go_at_call 169; exact (e0i ro 7 (by decide) _).mono (fun e w' h => ⟨h.1, _, h.2.symm⟩)) | (go_at_call 169; exact (e0i user 6 (by decide) _).mono (fun e w' h => ⟨h.1, _, h.2.symm⟩)) | (go_at_call 169; exact (e0i own 11 (by decide) _).mono (fun e w' h => ⟨h.1, _, h.2.symm⟩))))
  go_wp2_with fail
  go_ret2
  exact ⟨by rw [HE.out]; rfl, bd_ HB2.out _⟩
 ·have HE := h_ (f1r (table := false) (level := 2) used ro user own hk)
  rw [show checkN out false 2 = 70 from if_neg hk] at HC
  clear hk
  go_enter Tryz.func150, Tryz.ntmps150
  go_wp2_with fail
  refine (HC.out _).mono ?_
  rintro e w2 ⟨rfl, hb⟩
  have HB2 := h_ (bt_ HB.out hb)
  clear hb
  go_wp2_with fail
  go_ret2
  exact ⟨by rw [HE.out]; rfl, HB2.out⟩
end
end Go.Proofs.YtmnojnopejhebaaGreat
