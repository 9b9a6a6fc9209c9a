/- The core that was begun last, turned. -/
import Derived.Test.YtmnojnopejhebaaGreatMgar
import Derived.Test.YtmnojnopejhebaaGreatMgas
import Derived.Deep.RegionLaw
import Derived.Deep.AppendLies
import Derived.Outline
namespace Go.Proofs.YtmnojnopejhebaaGreat
set_option linter.unusedVariables false
set_option linter.unusedSimpArgs false
set_option maxRecDepth 100000
set_option maxHeartbeats 25600000
section
open Go.RowKit
theorem Sizes.mono {x : SrcA} {n m : Nat} (h : Sizes x n) (hm : n ≤ m) : Sizes x m :=
 ⟨Nat.le_trans h.cells hm, Nat.le_trans h.cores hm, Nat.le_trans h.tables hm, Nat.le_trans h.pT hm, Nat.le_trans h.pC hm, Nat.le_trans h.pCo hm, Nat.le_trans h.pI hm, fun q hq => Nat.le_trans (h.ins q hq) hm, fun c hc => ⟨Nat.le_trans (h.code c hc).1 hm, Nat.le_trans (h.code c hc).2.1 hm, (h.code c hc).2.2⟩⟩
theorem ST.mono {w : World} {f : Nat → Nat} {B g n m : Nat} {x : SrcA} {v : SrcV} (h : ST w f B g n x v) (hm : n ≤ m) (h2 : m ≤ 20000) : ST w f B g m x v := ⟨h.blk, h.lg, h.le, h.parts, h.sizes.mono hm, h2⟩
theorem ST.mk' {w : World} {f : Nat → Nat} {B g n j : Nat} {x' : SrcA} {v' : SrcV} {u : Value} {cs : List Value} (hB : Blk w 111 g cs) (hlg : f g = lab 9 0) (hle : B ≤ g) (hp : Parts w f B x' v') (hc : stC x' v' = cs.set j u) (hs : Sizes x' n) (hn : n ≤ 20000) : ST (w.setCell ⟨g, j, none⟩ u) f B g n x' v' := by
 have hG : GL f (fun l => l = lab 9 0) w (w.setCell ⟨g, j, none⟩ u) := (GL.refl f _ w).set hlg j u
 have p := hp.but (f' := f) hG (fun _ _ => rfl)
 have ne : ∀ k i, 1 ≤ k → k ≤ 13 → k ≠ 9 → ¬ lab k i = lab 9 0 := fun k i h1 h2 h3 => by unfold lab; omega
 exact ⟨by rw [hc]; exact hB.set j u, hlg, hle, ⟨p.cells (ne 6 0 (by decide) (by decide) (by decide)), p.cores (ne 7 0 (by decide) (by decide) (by decide)), p.lenc, fun i h1 h2 => ⟨(p.core i h1 h2).1 (ne 10 i (by decide) (by decide) (by decide)), (p.core i h1 h2).2.1 (ne 11 i (by decide) (by decide) (by decide)), (p.core i h1 h2).2.2 (ne 12 i (by decide) (by decide) (by decide))⟩, p.cond (ne 8 0 (by decide) (by decide) (by decide)), p.tables (ne 1 0 (by decide) (by decide) (by decide)), p.pT (ne 2 0 (by decide) (by decide) (by decide)), p.pC (ne 3 0 (by decide) (by decide) (by decide)), p.pCo (ne 4 0 (by decide) (by decide) (by decide)), p.pI (ne 5 0 (by decide) (by decide) (by decide)), p.leni, fun i h1 h2 => p.ins i h1 h2 (ne 13 i (by decide) (by decide) (by decide))⟩, hs, hn⟩
theorem OwnL.relab2 {w w' : World} {f f' : Nat → Nat} {B l : Nat} {e : TypeId} {size : Nat} {v : Value} {n : Nat} {xs : List Value} (h : OwnL w' f B l e size v n xs) (h0 : OwnL w f B l e size v n xs) (hf : ∀ g, g < w.heap.size → f' g = f g) : OwnL w' f' B l e size v n xs := ⟨h.1, fun g hg => by rw [hf g (h0.lt g hg).2]; exact h.2 g hg⟩
structure AppOut (w : World) (f : Nat → Nat) (B g : Nat) (cs : List Value) (l : Nat) (w' : World) (f' : Nat → Nat) : Prop where
 agree : ∀ i, i < w.heap.size → f' i = f i
 gl : GL f (fun n => n = l) w w'
 blk : Blk w' 111 g cs
 lg : f' g = lab 9 0
theorem ST.app_tables {w w' : World} {f : Nat → Nat} {B g n : Nat} {x : SrcA} {v : SrcV} (h : ST w f B g n x v) {v' : Value} (t : Nat) (hg : w.grownBy w' v.vT.ownBlock) (ho : w'.ownsRow B 26 1 v' (x.tables.length + 1) (x.tables.map u64V ++ [u64V t])) (hk : ∀ k, v'.ownBlock = some k → v.vT.ownBlock = some k ∨ w.heap.size ≤ k) (hn : n < 20000) :
  ∃ f', AppOut w f B g (stC x v) (lab 1 0) w' f' ∧ ST (w'.setCell ⟨g, 10, none⟩ v') f' B g (n + 1) { x with tables := x.tables ++ [t] } { v with vT := v' } := by
 obtain ⟨f', ha, hO, hG⟩ := h.parts.tables.app hg ho hk
 have p := h.parts.but (f' := f') hG ha
 have ne : ∀ k i, 1 ≤ k → k ≤ 13 → k ≠ 1 → ¬ lab k i = lab 1 0 := fun k i h1 h2 h3 => by unfold lab; omega
 have hnew : OwnL w' f' B (lab 1 0) 26 1 v' (x.tables ++ [t]).length ((x.tables ++ [t]).map u64V) := by
  simpa using hO
 have hB : Blk w' 111 g (stC x v) := h.blk.gl hG (by rw [h.lg]; exact ne 9 0 (by decide) (by decide) (by decide))
 have hlg : f' g = lab 9 0 := by rw [ha g h.lt]; exact h.lg
 refine ⟨f', ⟨ha, hG, hB, hlg⟩, ST.mk' hB hlg h.le (x' := { x with tables := x.tables ++ [t] }) (v' := { v with vT := v' }) ⟨p.cells (ne 6 0 (by decide) (by decide) (by decide)), p.cores (ne 7 0 (by decide) (by decide) (by decide)), p.lenc, fun i h1 h2 => ⟨(p.core i h1 h2).1 (ne 10 i (by decide) (by decide) (by decide)), (p.core i h1 h2).2.1 (ne 11 i (by decide) (by decide) (by decide)), (p.core i h1 h2).2.2 (ne 12 i (by decide) (by decide) (by decide))⟩, p.cond (ne 8 0 (by decide) (by decide) (by decide)), hnew, p.pT (ne 2 0 (by decide) (by decide) (by decide)), p.pC (ne 3 0 (by decide) (by decide) (by decide)), p.pCo (ne 4 0 (by decide) (by decide) (by decide)), p.pI (ne 5 0 (by decide) (by decide) (by decide)), p.leni, fun i h1 h2 => p.ins i h1 h2 (ne 13 i (by decide) (by decide) (by decide))⟩ rfl ⟨Nat.le_trans h.sizes.cells (Nat.le_succ n), Nat.le_trans h.sizes.cores (Nat.le_succ n), by simp; have := h.sizes.tables; omega, Nat.le_trans h.sizes.pT (Nat.le_succ n), Nat.le_trans h.sizes.pC (Nat.le_succ n), Nat.le_trans h.sizes.pCo (Nat.le_succ n), Nat.le_trans h.sizes.pI (Nat.le_succ n), fun q hq => Nat.le_trans (h.sizes.ins q hq) (Nat.le_succ n), fun c hc => ⟨Nat.le_trans (h.sizes.code c hc).1 (Nat.le_succ n), Nat.le_trans (h.sizes.code c hc).2.1 (Nat.le_succ n), (h.sizes.code c hc).2.2⟩⟩ (by omega)⟩
theorem ST.app_pT {w w' : World} {f : Nat → Nat} {B g n : Nat} {x : SrcA} {v : SrcV} (h : ST w f B g n x v) {v' : Value} (t : Int) (hg : w.grownBy w' v.vPT.ownBlock) (ho : w'.ownsRow B 3 1 v' (x.pT.length + 1) (x.pT.map i64V ++ [i64V t])) (hk : ∀ k, v'.ownBlock = some k → v.vPT.ownBlock = some k ∨ w.heap.size ≤ k) (hn : n < 20000) :
  ∃ f', AppOut w f B g (stC x v) (lab 2 0) w' f' ∧ ST (w'.setCell ⟨g, 11, none⟩ v') f' B g (n + 1) { x with pT := x.pT ++ [t] } { v with vPT := v' } := by
 obtain ⟨f', ha, hO, hG⟩ := h.parts.pT.app hg ho hk
 have p := h.parts.but (f' := f') hG ha
 have ne : ∀ k i, 1 ≤ k → k ≤ 13 → k ≠ 2 → ¬ lab k i = lab 2 0 := fun k i h1 h2 h3 => by unfold lab; omega
 have hnew : OwnL w' f' B (lab 2 0) 3 1 v' (x.pT ++ [t]).length ((x.pT ++ [t]).map i64V) := by
  simpa using hO
 have hB : Blk w' 111 g (stC x v) := h.blk.gl hG (by rw [h.lg]; exact ne 9 0 (by decide) (by decide) (by decide))
 have hlg : f' g = lab 9 0 := by rw [ha g h.lt]; exact h.lg
 refine ⟨f', ⟨ha, hG, hB, hlg⟩, ST.mk' hB hlg h.le (x' := { x with pT := x.pT ++ [t] }) (v' := { v with vPT := v' }) ⟨p.cells (ne 6 0 (by decide) (by decide) (by decide)), p.cores (ne 7 0 (by decide) (by decide) (by decide)), p.lenc, fun i h1 h2 => ⟨(p.core i h1 h2).1 (ne 10 i (by decide) (by decide) (by decide)), (p.core i h1 h2).2.1 (ne 11 i (by decide) (by decide) (by decide)), (p.core i h1 h2).2.2 (ne 12 i (by decide) (by decide) (by decide))⟩, p.cond (ne 8 0 (by decide) (by decide) (by decide)), p.tables (ne 1 0 (by decide) (by decide) (by decide)), hnew, p.pC (ne 3 0 (by decide) (by decide) (by decide)), p.pCo (ne 4 0 (by decide) (by decide) (by decide)), p.pI (ne 5 0 (by decide) (by decide) (by decide)), p.leni, fun i h1 h2 => p.ins i h1 h2 (ne 13 i (by decide) (by decide) (by decide))⟩ rfl ⟨Nat.le_trans h.sizes.cells (Nat.le_succ n), Nat.le_trans h.sizes.cores (Nat.le_succ n), Nat.le_trans h.sizes.tables (Nat.le_succ n), by simp; have := h.sizes.pT; omega, Nat.le_trans h.sizes.pC (Nat.le_succ n), Nat.le_trans h.sizes.pCo (Nat.le_succ n), Nat.le_trans h.sizes.pI (Nat.le_succ n), fun q hq => Nat.le_trans (h.sizes.ins q hq) (Nat.le_succ n), fun c hc => ⟨Nat.le_trans (h.sizes.code c hc).1 (Nat.le_succ n), Nat.le_trans (h.sizes.code c hc).2.1 (Nat.le_succ n), (h.sizes.code c hc).2.2⟩⟩ (by omega)⟩
theorem ST.app_pC {w w' : World} {f : Nat → Nat} {B g n : Nat} {x : SrcA} {v : SrcV} (h : ST w f B g n x v) {v' : Value} (t : Int) (hg : w.grownBy w' v.vPC.ownBlock) (ho : w'.ownsRow B 3 1 v' (x.pC.length + 1) (x.pC.map i64V ++ [i64V t])) (hk : ∀ k, v'.ownBlock = some k → v.vPC.ownBlock = some k ∨ w.heap.size ≤ k) (hn : n < 20000) :
  ∃ f', AppOut w f B g (stC x v) (lab 3 0) w' f' ∧ ST (w'.setCell ⟨g, 12, none⟩ v') f' B g (n + 1) { x with pC := x.pC ++ [t] } { v with vPC := v' } := by
 obtain ⟨f', ha, hO, hG⟩ := h.parts.pC.app hg ho hk
 have p := h.parts.but (f' := f') hG ha
 have ne : ∀ k i, 1 ≤ k → k ≤ 13 → k ≠ 3 → ¬ lab k i = lab 3 0 := fun k i h1 h2 h3 => by unfold lab; omega
 have hnew : OwnL w' f' B (lab 3 0) 3 1 v' (x.pC ++ [t]).length ((x.pC ++ [t]).map i64V) := by
  simpa using hO
 have hB : Blk w' 111 g (stC x v) := h.blk.gl hG (by rw [h.lg]; exact ne 9 0 (by decide) (by decide) (by decide))
 have hlg : f' g = lab 9 0 := by rw [ha g h.lt]; exact h.lg
 refine ⟨f', ⟨ha, hG, hB, hlg⟩, ST.mk' hB hlg h.le (x' := { x with pC := x.pC ++ [t] }) (v' := { v with vPC := v' }) ⟨p.cells (ne 6 0 (by decide) (by decide) (by decide)), p.cores (ne 7 0 (by decide) (by decide) (by decide)), p.lenc, fun i h1 h2 => ⟨(p.core i h1 h2).1 (ne 10 i (by decide) (by decide) (by decide)), (p.core i h1 h2).2.1 (ne 11 i (by decide) (by decide) (by decide)), (p.core i h1 h2).2.2 (ne 12 i (by decide) (by decide) (by decide))⟩, p.cond (ne 8 0 (by decide) (by decide) (by decide)), p.tables (ne 1 0 (by decide) (by decide) (by decide)), p.pT (ne 2 0 (by decide) (by decide) (by decide)), hnew, p.pCo (ne 4 0 (by decide) (by decide) (by decide)), p.pI (ne 5 0 (by decide) (by decide) (by decide)), p.leni, fun i h1 h2 => p.ins i h1 h2 (ne 13 i (by decide) (by decide) (by decide))⟩ rfl ⟨Nat.le_trans h.sizes.cells (Nat.le_succ n), Nat.le_trans h.sizes.cores (Nat.le_succ n), Nat.le_trans h.sizes.tables (Nat.le_succ n), Nat.le_trans h.sizes.pT (Nat.le_succ n), by simp; have := h.sizes.pC; omega, Nat.le_trans h.sizes.pCo (Nat.le_succ n), Nat.le_trans h.sizes.pI (Nat.le_succ n), fun q hq => Nat.le_trans (h.sizes.ins q hq) (Nat.le_succ n), fun c hc => ⟨Nat.le_trans (h.sizes.code c hc).1 (Nat.le_succ n), Nat.le_trans (h.sizes.code c hc).2.1 (Nat.le_succ n), (h.sizes.code c hc).2.2⟩⟩ (by omega)⟩
theorem ST.app_pCo {w w' : World} {f : Nat → Nat} {B g n : Nat} {x : SrcA} {v : SrcV} (h : ST w f B g n x v) {v' : Value} (t : Int) (hg : w.grownBy w' v.vPCo.ownBlock) (ho : w'.ownsRow B 3 1 v' (x.pCo.length + 1) (x.pCo.map i64V ++ [i64V t])) (hk : ∀ k, v'.ownBlock = some k → v.vPCo.ownBlock = some k ∨ w.heap.size ≤ k) (hn : n < 20000) :
  ∃ f', AppOut w f B g (stC x v) (lab 4 0) w' f' ∧ ST (w'.setCell ⟨g, 13, none⟩ v') f' B g (n + 1) { x with pCo := x.pCo ++ [t] } { v with vPCo := v' } := by
 obtain ⟨f', ha, hO, hG⟩ := h.parts.pCo.app hg ho hk
 have p := h.parts.but (f' := f') hG ha
 have ne : ∀ k i, 1 ≤ k → k ≤ 13 → k ≠ 4 → ¬ lab k i = lab 4 0 := fun k i h1 h2 h3 => by unfold lab; omega
 have hnew : OwnL w' f' B (lab 4 0) 3 1 v' (x.pCo ++ [t]).length ((x.pCo ++ [t]).map i64V) := by
  simpa using hO
 have hB : Blk w' 111 g (stC x v) := h.blk.gl hG (by rw [h.lg]; exact ne 9 0 (by decide) (by decide) (by decide))
 have hlg : f' g = lab 9 0 := by rw [ha g h.lt]; exact h.lg
 refine ⟨f', ⟨ha, hG, hB, hlg⟩, ST.mk' hB hlg h.le (x' := { x with pCo := x.pCo ++ [t] }) (v' := { v with vPCo := v' }) ⟨p.cells (ne 6 0 (by decide) (by decide) (by decide)), p.cores (ne 7 0 (by decide) (by decide) (by decide)), p.lenc, fun i h1 h2 => ⟨(p.core i h1 h2).1 (ne 10 i (by decide) (by decide) (by decide)), (p.core i h1 h2).2.1 (ne 11 i (by decide) (by decide) (by decide)), (p.core i h1 h2).2.2 (ne 12 i (by decide) (by decide) (by decide))⟩, p.cond (ne 8 0 (by decide) (by decide) (by decide)), p.tables (ne 1 0 (by decide) (by decide) (by decide)), p.pT (ne 2 0 (by decide) (by decide) (by decide)), p.pC (ne 3 0 (by decide) (by decide) (by decide)), hnew, p.pI (ne 5 0 (by decide) (by decide) (by decide)), p.leni, fun i h1 h2 => p.ins i h1 h2 (ne 13 i (by decide) (by decide) (by decide))⟩ rfl ⟨Nat.le_trans h.sizes.cells (Nat.le_succ n), Nat.le_trans h.sizes.cores (Nat.le_succ n), Nat.le_trans h.sizes.tables (Nat.le_succ n), Nat.le_trans h.sizes.pT (Nat.le_succ n), Nat.le_trans h.sizes.pC (Nat.le_succ n), by simp; have := h.sizes.pCo; omega, Nat.le_trans h.sizes.pI (Nat.le_succ n), fun q hq => Nat.le_trans (h.sizes.ins q hq) (Nat.le_succ n), fun c hc => ⟨Nat.le_trans (h.sizes.code c hc).1 (Nat.le_succ n), Nat.le_trans (h.sizes.code c hc).2.1 (Nat.le_succ n), (h.sizes.code c hc).2.2⟩⟩ (by omega)⟩
theorem ST.app_cells {w w' : World} {f : Nat → Nat} {B g n : Nat} {x : SrcA} {v : SrcV} (h : ST w f B g n x v) {v' : Value} (t : Nat × Nat) (hg : w.grownBy w' v.vC.ownBlock) (ho : w'.ownsRow B 79 2 v' (x.cells.length + 1) (cellL x.cells ++ [u64V t.1, u64V t.2])) (hk : ∀ k, v'.ownBlock = some k → v.vC.ownBlock = some k ∨ w.heap.size ≤ k) (hn : n < 20000) :
  ∃ f', AppOut w f B g (stC x v) (lab 6 0) w' f' ∧ ST (w'.setCell ⟨g, 1, none⟩ v') f' B g (n + 1) { x with cells := x.cells ++ [t] } { v with vC := v' } := by
 obtain ⟨f', ha, hO, hG⟩ := h.parts.cells.app hg ho hk
 have p := h.parts.but (f' := f') hG ha
 have ne : ∀ k i, 1 ≤ k → k ≤ 13 → k ≠ 6 → ¬ lab k i = lab 6 0 := fun k i h1 h2 h3 => by unfold lab; omega
 have hnew : OwnL w' f' B (lab 6 0) 79 2 v' (x.cells ++ [t]).length (cellL (x.cells ++ [t])) := by
  simpa [cellL] using hO
 have hB : Blk w' 111 g (stC x v) := h.blk.gl hG (by rw [h.lg]; exact ne 9 0 (by decide) (by decide) (by decide))
 have hlg : f' g = lab 9 0 := by rw [ha g h.lt]; exact h.lg
 refine ⟨f', ⟨ha, hG, hB, hlg⟩, ST.mk' hB hlg h.le (x' := { x with cells := x.cells ++ [t] }) (v' := { v with vC := v' }) ⟨hnew, p.cores (ne 7 0 (by decide) (by decide) (by decide)), p.lenc, fun i h1 h2 => ⟨(p.core i h1 h2).1 (ne 10 i (by decide) (by decide) (by decide)), (p.core i h1 h2).2.1 (ne 11 i (by decide) (by decide) (by decide)), (p.core i h1 h2).2.2 (ne 12 i (by decide) (by decide) (by decide))⟩, p.cond (ne 8 0 (by decide) (by decide) (by decide)), p.tables (ne 1 0 (by decide) (by decide) (by decide)), p.pT (ne 2 0 (by decide) (by decide) (by decide)), p.pC (ne 3 0 (by decide) (by decide) (by decide)), p.pCo (ne 4 0 (by decide) (by decide) (by decide)), p.pI (ne 5 0 (by decide) (by decide) (by decide)), p.leni, fun i h1 h2 => p.ins i h1 h2 (ne 13 i (by decide) (by decide) (by decide))⟩ rfl ⟨by simp; have := h.sizes.cells; omega, Nat.le_trans h.sizes.cores (Nat.le_succ n), Nat.le_trans h.sizes.tables (Nat.le_succ n), Nat.le_trans h.sizes.pT (Nat.le_succ n), Nat.le_trans h.sizes.pC (Nat.le_succ n), Nat.le_trans h.sizes.pCo (Nat.le_succ n), Nat.le_trans h.sizes.pI (Nat.le_succ n), fun q hq => Nat.le_trans (h.sizes.ins q hq) (Nat.le_succ n), fun c hc => ⟨Nat.le_trans (h.sizes.code c hc).1 (Nat.le_succ n), Nat.le_trans (h.sizes.code c hc).2.1 (Nat.le_succ n), (h.sizes.code c hc).2.2⟩⟩ (by omega)⟩
theorem r0d (cvs : List CoreV) (cs : List CoreA) (h : cvs.length = cs.length) (cv : CoreV) (c : CoreA) : e0f (cvs ++ [cv]) (cs ++ [c]) = e0f cvs cs ++ g0v cv c := by
 induction cvs generalizing cs with
 | nil => cases cs with
  | nil => simp [e0f]
  | cons _ _ => simp at h
 | cons a l ih => cases cs with
  | nil => simp at h
  | cons b m => simp only [List.cons_append, e0f]; rw [ih m (by simpa using h)]; simp
theorem ST.app_cores {w w' : World} {f : Nat → Nat} {B g n : Nat} {x : SrcA} {v : SrcV} (h : ST w f B g n x v) {v' : Value} (cv : CoreV) (c : CoreA) (hO1 : l0o w f B x.cores.length cv c) (hs : c.code.length ≤ n ∧ c.hand.length ≤ n ∧ c.regs.length = 31) (hg : w.grownBy w' v.vCo.ownBlock) (ho : w'.ownsRow B 82 5 v' (x.cores.length + 1) (e0f v.cvs x.cores ++ g0v cv c)) (hk : ∀ k, v'.ownBlock = some k → v.vCo.ownBlock = some k ∨ w.heap.size ≤ k) (hn : n < 20000) :
  ∃ f', AppOut w f B g (stC x v) (lab 7 0) w' f' ∧ ST (w'.setCell ⟨g, 2, none⟩ v') f' B g (n + 1) { x with cores := x.cores ++ [c] } { v with vCo := v', cvs := v.cvs ++ [cv] } := by
 obtain ⟨f', ha, hO, hG⟩ := h.parts.cores.app hg ho hk
 have p := h.parts.but (f' := f') hG ha
 have ne : ∀ k i, 1 ≤ k → k ≤ 13 → k ≠ 7 → ¬ lab k i = lab 7 0 := fun k i h1 h2 h3 => by unfold lab; omega
 have hlc := h.parts.lenc
 have hnew : OwnL w' f' B (lab 7 0) 82 5 v' (x.cores ++ [c]).length (e0f (v.cvs ++ [cv]) (x.cores ++ [c])) := by
  rw [r0d _ _ hlc]; simpa using hO
 have hcore : ∀ (i : Nat) (h1 : i < (x.cores ++ [c]).length) (h2 : i < (v.cvs ++ [cv]).length), l0o w' f' B i (v.cvs ++ [cv])[i] (x.cores ++ [c])[i] := by
  intro i h1 h2
  have hl1 : i < x.cores.length + 1 := by simpa using h1
  rcases Nat.lt_or_ge i x.cores.length with hi | hi
  ·rw [List.getElem_append_left hi, List.getElem_append_left (by omega)]
   exact ⟨(p.core i hi (by omega)).1 (ne 10 i (by decide) (by decide) (by decide)), (p.core i hi (by omega)).2.1 (ne 11 i (by decide) (by decide) (by decide)), (p.core i hi (by omega)).2.2 (ne 12 i (by decide) (by decide) (by decide))⟩
  ·have hi2 : i = x.cores.length := by omega
   subst hi2
   have e1 : (x.cores ++ [c])[x.cores.length] = c := by simp
   have e2 : (v.cvs ++ [cv])[x.cores.length] = cv := by
    rw [List.getElem_append_right (by omega)]; simp
   rw [e1, e2]
   exact ⟨(hO1.1.gl hG (ne 10 _ (by decide) (by decide) (by decide))).relab2 hO1.1 ha, (hO1.2.1.gl hG (ne 11 _ (by decide) (by decide) (by decide))).relab2 hO1.2.1 ha, (hO1.2.2.gl hG (ne 12 _ (by decide) (by decide) (by decide))).relab2 hO1.2.2 ha⟩
 have hB : Blk w' 111 g (stC x v) := h.blk.gl hG (by rw [h.lg]; exact ne 9 0 (by decide) (by decide) (by decide))
 have hlg : f' g = lab 9 0 := by rw [ha g h.lt]; exact h.lg
 refine ⟨f', ⟨ha, hG, hB, hlg⟩, ST.mk' hB hlg h.le (x' := { x with cores := x.cores ++ [c] }) (v' := { v with vCo := v', cvs := v.cvs ++ [cv] }) ⟨p.cells (ne 6 0 (by decide) (by decide) (by decide)), hnew, by simp [p.lenc], hcore, p.cond (ne 8 0 (by decide) (by decide) (by decide)), p.tables (ne 1 0 (by decide) (by decide) (by decide)), p.pT (ne 2 0 (by decide) (by decide) (by decide)), p.pC (ne 3 0 (by decide) (by decide) (by decide)), p.pCo (ne 4 0 (by decide) (by decide) (by decide)), p.pI (ne 5 0 (by decide) (by decide) (by decide)), p.leni, fun i h1 h2 => p.ins i h1 h2 (ne 13 i (by decide) (by decide) (by decide))⟩ rfl ⟨Nat.le_trans h.sizes.cells (Nat.le_succ n), by simp; have := h.sizes.cores; omega, Nat.le_trans h.sizes.tables (Nat.le_succ n), Nat.le_trans h.sizes.pT (Nat.le_succ n), Nat.le_trans h.sizes.pC (Nat.le_succ n), Nat.le_trans h.sizes.pCo (Nat.le_succ n), Nat.le_trans h.sizes.pI (Nat.le_succ n), fun q hq => Nat.le_trans (h.sizes.ins q hq) (Nat.le_succ n), fun c' hc => ?_⟩ (by omega)⟩
 rcases List.mem_append.1 hc with hc | hc
 ·exact ⟨Nat.le_trans (h.sizes.code c' hc).1 (Nat.le_succ n), Nat.le_trans (h.sizes.code c' hc).2.1 (Nat.le_succ n), (h.sizes.code c' hc).2.2⟩
 ·have hce : c' = c := by simpa using hc
  subst hce
  exact ⟨Nat.le_trans hs.1 (Nat.le_succ n), Nat.le_trans hs.2.1 (Nat.le_succ n), hs.2.2⟩
theorem ST.app_pI {w w' : World} {f : Nat → Nat} {B g n : Nat} {x : SrcA} {v : SrcV} (h : ST w f B g n x v) {v' : Value} (hg : w.grownBy w' v.vPI.ownBlock) (ho : w'.ownsRow B 33 1 v' (x.pI.length + 1) (v.ivs ++ [.slice none 0 0])) (hk : ∀ k, v'.ownBlock = some k → v.vPI.ownBlock = some k ∨ w.heap.size ≤ k) (hn : n < 20000) :
  ∃ f', AppOut w f B g (stC x v) (lab 5 0) w' f' ∧ ST (w'.setCell ⟨g, 14, none⟩ v') f' B g (n + 1) { x with pI := x.pI ++ [[]] } { v with vPI := v', ivs := v.ivs ++ [.slice none 0 0] } := by
 obtain ⟨f', ha, hO, hG⟩ := h.parts.pI.app hg ho hk
 have p := h.parts.but (f' := f') hG ha
 have ne : ∀ k i, 1 ≤ k → k ≤ 13 → k ≠ 5 → ¬ lab k i = lab 5 0 := fun k i h1 h2 h3 => by unfold lab; omega
 have hlc := h.parts.leni
 have hnew : OwnL w' f' B (lab 5 0) 33 1 v' (x.pI ++ [[]]).length (v.ivs ++ [.slice none 0 0]) := by
  simpa using hO
 have hins : ∀ (i : Nat) (h1 : i < (x.pI ++ [[]]).length) (h2 : i < (v.ivs ++ [(.slice none 0 0 : Value)]).length), OwnL w' f' B (lab 13 i) 3 1 (v.ivs ++ [(.slice none 0 0 : Value)])[i] (x.pI ++ [[]])[i].length ((x.pI ++ [[]])[i].map i64V) := by
  intro i h1 h2
  have hl1 : i < x.pI.length + 1 := by simpa using h1
  rcases Nat.lt_or_ge i x.pI.length with hi | hi
  ·have e1 : (x.pI ++ [[]])[i] = x.pI[i] := List.getElem_append_left hi
   have e2 : (v.ivs ++ [(.slice none 0 0 : Value)])[i] = v.ivs[i]'(by omega) := List.getElem_append_left (by omega)
   rw [e1, e2]
   exact p.ins i hi (by omega) (ne 13 i (by decide) (by decide) (by decide))
  ·have hi2 : i = x.pI.length := by omega
   subst hi2
   have e1 : (x.pI ++ [[]])[x.pI.length] = [] := by simp
   have e2 : (v.ivs ++ [(.slice none 0 0 : Value)])[x.pI.length] = .slice none 0 0 := by
    rw [List.getElem_append_right (by omega)]; simp
   rw [e1, e2]
   exact OwnL.nil _ _ _ _ _ _
 have hB : Blk w' 111 g (stC x v) := h.blk.gl hG (by rw [h.lg]; exact ne 9 0 (by decide) (by decide) (by decide))
 have hlg : f' g = lab 9 0 := by rw [ha g h.lt]; exact h.lg
 refine ⟨f', ⟨ha, hG, hB, hlg⟩, ST.mk' hB hlg h.le (x' := { x with pI := x.pI ++ [[]] }) (v' := { v with vPI := v', ivs := v.ivs ++ [.slice none 0 0] }) ⟨p.cells (ne 6 0 (by decide) (by decide) (by decide)), p.cores (ne 7 0 (by decide) (by decide) (by decide)), p.lenc, fun i h1 h2 => ⟨(p.core i h1 h2).1 (ne 10 i (by decide) (by decide) (by decide)), (p.core i h1 h2).2.1 (ne 11 i (by decide) (by decide) (by decide)), (p.core i h1 h2).2.2 (ne 12 i (by decide) (by decide) (by decide))⟩, p.cond (ne 8 0 (by decide) (by decide) (by decide)), p.tables (ne 1 0 (by decide) (by decide) (by decide)), p.pT (ne 2 0 (by decide) (by decide) (by decide)), p.pC (ne 3 0 (by decide) (by decide) (by decide)), p.pCo (ne 4 0 (by decide) (by decide) (by decide)), hnew, by simp [p.leni], hins⟩ rfl ⟨Nat.le_trans h.sizes.cells (Nat.le_succ n), Nat.le_trans h.sizes.cores (Nat.le_succ n), Nat.le_trans h.sizes.tables (Nat.le_succ n), Nat.le_trans h.sizes.pT (Nat.le_succ n), Nat.le_trans h.sizes.pC (Nat.le_succ n), Nat.le_trans h.sizes.pCo (Nat.le_succ n), by simp; have := h.sizes.pI; omega, fun q hq => ?_, fun c hc => ⟨Nat.le_trans (h.sizes.code c hc).1 (Nat.le_succ n), Nat.le_trans (h.sizes.code c hc).2.1 (Nat.le_succ n), (h.sizes.code c hc).2.2⟩⟩ (by omega)⟩
 rcases List.mem_append.1 hq with hq | hq
 ·exact Nat.le_trans (h.sizes.ins q hq) (Nat.le_succ n)
 ·have hce : q = [] := by simpa using hq
  subst hce
  simp
end
section
open Go.RowKit
theorem l1v : El Tryz.prog 32 26 (.int .u64 0) 1 8 := ⟨Tryz.underlying32, by kernel_rfl⟩
theorem p0q : El Tryz.prog 33 3 (.int .i64 0) 1 8 := ⟨Tryz.underlying33, by kernel_rfl⟩
theorem o1a : El Tryz.prog 24 79 (.agg #[.int .u64 0, .int .u64 0]) 2 16 := ⟨Tryz.underlying24, by kernel_rfl⟩
theorem p0k (tk : List Tk) (x : SrcA) (s : RS) (at_ : Int) (h : ¬ x.after = 1) : i0s tk x s at_ = (x, e0b s 110 at_) ∧ n0b tk x s at_ = (x, e0b s 110 at_) := by
 unfold i0s n0b; rw [if_neg h, if_neg h]; exact ⟨rfl, rfl⟩
def Acc (w : World) (f : Nat → Nat) (w' : World) (f' : Nat → Nat) : Prop := (∀ i, i < w.heap.size → f' i = f i) ∧ GL f (fun l => l ≠ 0) w w'
theorem Acc.refl (w : World) (f : Nat → Nat) : Acc w f w f := ⟨fun _ _ => rfl, GL.refl _ _ _⟩
theorem Acc.gl {w w1 w2 : World} {f f1 f2 : Nat → Nat} {L : Nat → Prop} (h : Acc w f w1 f1) (hg : GL f1 L w1 w2) (hf : ∀ i, i < w1.heap.size → f2 i = f1 i) (hL : ¬ L 0) : Acc w f w2 f2 :=
 ⟨fun i hi => (hf i (Nat.lt_of_lt_of_le hi h.2.size)).trans (h.1 i hi), h.2.trans (hg.mono fun l hl hn => hL (hn ▸ hl)) h.1⟩
theorem Acc.trans {w w1 w2 : World} {f f1 f2 : Nat → Nat} (h : Acc w f w1 f1) (k : Acc w1 f1 w2 f2) : Acc w f w2 f2 := h.gl k.2 k.1 (fun h => h rfl)
theorem Acc.below {w w1 w2 : World} {f f1 : Nat → Nat} (h : Acc w f w1 f1) (hb : Below w1.heap.size w1 w2) : Acc w f w2 f1 := h.gl (L := fun _ => False) (GL.ofBelow hb) (fun _ _ => rfl) (fun h => h)
theorem Acc.rd {w w1 w2 : World} {f f1 : Nat → Nat} {r : Nat} (h : Acc w f w1 f1) (hg : w1.grownBy w2 (some r)) (hr : f1 r = lab 14 0) : Acc w f w2 f1 := h.gl (a1p hg hr) (fun _ _ => rfl) (fun h => h rfl)
theorem Acc.set {w w1 : World} {f f1 : Nat → Nat} {g : Nat} (h : Acc w f w1 f1) (hg : f1 g ≠ 0) (j : Nat) (u : Value) : Acc w f (w1.setCell ⟨g, j, none⟩ u) f1 := h.gl (L := fun l => l ≠ 0) ((GL.refl f1 _ w1).set hg j u) (fun _ _ => rfl) (fun h => h rfl)
def e0s (f : Nat → Nat) (k : Nat) : Nat → Nat := fun i => if i = k then 15 else f i
theorem d0f (f : Nat → Nat) (k : Nat) : e0s f k k = 15 := if_pos rfl
theorem d0e (f : Nat → Nat) (k : Nat) : ∀ i, i < k → e0s f k i = f i := fun i hi => if_neg (by omega)
theorem ST.relab {w : World} {f f' : Nat → Nat} {B g n : Nat} {x : SrcA} {v : SrcV} (h : ST w f B g n x v) (hf : ∀ i, i < w.heap.size → f' i = f i) : ST w f' B g n x v := h.gl (L := fun _ => False) (GL.refl _ _ _) hf (fun _ h => h.elim)
theorem RdrL.relab {w : World} {f f' : Nat → Nat} {r n c : Nat} {p : Option Addr} {tk : List Tk} {s : RS} (h : RdrL w f r n p c tk s) (hf : ∀ i, i < w.heap.size → f' i = f i) : RdrL w f' r n p c tk s := h.gl (L := fun _ => False) (GL.refl _ _ _) hf (fun h => h) (fun h => h)
theorem Acc.relab {w w1 : World} {f f1 f2 : Nat → Nat} (h : Acc w f w1 f1) (hf : ∀ i, i < w1.heap.size → f2 i = f1 i) : Acc w f w1 f2 := h.gl (L := fun _ => False) (GL.refl _ _ _) hf (fun h => h)
theorem ST.set15 {w : World} {f : Nat → Nat} {B g n k : Nat} {x : SrcA} {v : SrcV} (h : ST w f B g n x v) (hk : f k = 15) (j : Nat) (u : Value) : ST (w.setCell ⟨k, j, none⟩ u) f B g n x v := h.gl (L := fun l => l = 15) ((GL.refl _ _ _).set hk j u) (fun _ _ => rfl) (fun l hl => by subst hl; right; decide)
theorem RdrL.set15 {w : World} {f : Nat → Nat} {r n c k : Nat} {p : Option Addr} {tk : List Tk} {s : RS} (h : RdrL w f r n p c tk s) (hk : f k = 15) (j : Nat) (u : Value) : RdrL (w.setCell ⟨k, j, none⟩ u) f r n p c tk s := h.gl (L := fun l => l = 15) ((GL.refl _ _ _).set hk j u) (fun _ _ => rfl) (by decide) (by decide)
theorem AppOut.acc {w0 w w' : World} {f0 f f' : Nat → Nat} {B g l : Nat} {cs : List Value} (h : Acc w0 f0 w f) (hA : AppOut w f B g cs l w' f') (hl : l ≠ 0) (j : Nat) (u : Value) : Acc w0 f0 (w'.setCell ⟨g, j, none⟩ u) f' :=
 (h.gl hA.gl hA.agree (fun h => hl h.symm)).set (by rw [hA.lg]; decide) j u
theorem AppOut.rdr {w w' : World} {f f' : Nat → Nat} {B g l r tn c : Nat} {p : Option Addr} {tk : List Tk} {s : RS} {cs : List Value} (h : RdrL w f r tn p c tk s) (hA : AppOut w f B g cs l w' f') (hl : l ≠ 0) (hl2 : l ≠ lab 14 0) (j : Nat) (u : Value) : RdrL (w'.setCell ⟨g, j, none⟩ u) f' r tn p c tk s :=
 (h.gl hA.gl hA.agree (fun h => hl h.symm) (fun h => hl2 h.symm)).set hA.lg j u
theorem d0d.of {w w' : World} {f f' : Nat → Nat} {B g n r tn : Nat} {p : Option Addr} {c : Nat} {tk : List Tk} {y : SrcA × RS} {v' : SrcV} (hS : ST w' f' B g n y.1 v') (hR : RdrL w' f' r tn p c tk y.2) (h : Acc w f w' f') : d0d w f B g n r tn p c tk y (.returned (.tuple #[])) w' := ⟨rfl, f', v', hS, hR, h.1, h.2⟩
theorem f0b {P : Program} {ops : Array Oper} {o : Oper} {a : Act} {K : Act → World → Prop} {Q : Exit → Act → World → Prop} {E : Prop} {wr : World} (hgd : o.guard = none) (s x : Operand) (t : TypeId)
  (ho : o.op = .call { callee := .builtin .append, args := #[s, x], argTypes := #[t, t] })
  (base : Nat) (e : TypeId) (z : Value) (size bytes : Nat) (hel : El P t e z size bytes) (hzs : z.cells.size = size) (hsz : 0 < size)
  (v : Value) (n : Nat) (xs : List Value) (hs : a.eval s = v) (hown : wr.ownsRow base e size v n xs)
  (us : List Value) (hus : us.length = size) (g : Nat) (hx : a.eval x = .slice (some ⟨g, 0, none⟩) 1 1) (hg : g = wr.heap.size) (h1 : ∀ u ∈ us, u.oneCell' = true)
  (hn : n + 1 ≤ maxLen) (hby : (n + 1) * bytes ≤ 140737488355328) (hbase : base ≤ wr.heap.size)
  (h : ∀ v' w', w'.ownsRow base e size v' (n + 1) (xs ++ us) → wr.grownBy w' v.ownBlock → (∀ k, v'.ownBlock = some k → v.ownBlock = some k ∨ wr.heap.size ≤ k) → K (a.put o.dst v') w') :
  if Region.wanted o (yielded ops a.tmps) = true then Oper.wp P o a (wr.alloc (.cells us.toArray e)) K Q else E := by
 have hw : Region.wanted o (yielded ops a.tmps) = true := by simp [Region.wanted, hgd]
 rw [if_pos hw]
 subst hg
 obtain ⟨ht, hinfo⟩ := hel
 obtain ⟨i, hi, hz0, hz1, hz2⟩ := info_parts hinfo
 refine wp_append_lies (wr.alloc (.cells us.toArray e)) s x t ho base e i z size bytes ht hi hz0 hz1 hz2 hzs hsz v n xs hs (hown.alloc _) ⟨wr.heap.size, 0, none⟩ 1 1 us hx (by omega) ?_ h1 (by decide) hn hby (by simp; omega) _ rfl ?_
 ·intro j u' hj
  have hc : (wr.alloc (.cells us.toArray e)).cell? ⟨wr.heap.size, j, none⟩ = us[j]? := by
   rw [cell_of_row _ _ j _ _ _ (heap_alloc_new wr _)]; simp
  rw [addr_add, Nat.zero_add]; exact hc.trans hj
 ·intro g cap w' hown' hg hlie hlt
  have hg' : wr.grownBy w' v.ownBlock := ⟨hg.os, hg.tape, hg.output, Nat.le_trans (by simp) hg.size, fun k hk hne => (hg.block k (by simp; omega) hne).trans (Below.heap_alloc wr _ k hk)⟩
  refine h _ w' hown' hg' fun k hk => ?_
  have hk' : g = k := by simpa [Value.ownBlock] using hk
  subst hk'
  rcases hlie with h2 | h2
  ·exact .inl h2
  ·right; rw [h2]; simp
theorem c1i {w : World} {f : Nat → Nat} {B g n r tn : Nat} {p : Option Addr} {c : Nat} {tk : List Tk} {s : RS} {x : SrcA} {v : SrcV} (hS : ST w f B g n x v) (hR : RdrL w f r tn p c tk s) (at_ : Int) (hn : n < 19000) :
  Calls Tryz.prog 93 #[.pointer (some ⟨g, 0, none⟩), .pointer (some ⟨r, 0, none⟩), .int .i64 at_] w (d0d w f B g (n + 2) r tn p c tk (i0s tk x s at_)) := by
 have HS := h_ hS
 have HR := h_ hR
 by_cases ha : x.after = 1
 ·have HX := h_ (show i0s tk x s at_ = ({ x with tables := x.tables ++ [(a0c tk s).1], pT := x.pT ++ [at_] }, (a0c tk s).2) by unfold i0s; rw [if_pos ha])
  have HE := h_ (u0e (r := r) hS at_ ha)
  have HRD : a0y w.drew r tn p c tk s := hR.1
  have HSD := h_ (show ST w.drew f B g n x v from ST.below hS (Below.refl _ w).drew)
  have HRL := h_ (show RdrL w.drew f r tn p c tk s from RdrL.below hR (Below.refl _ w).drew)
  have HN := h_ (g0f w.drew HRD)
  clear HRD
  generalize a0c tk s = y at *
  obtain ⟨t, s2⟩ := y
  simp only at HX HN
  have HK1 := h_ (show x.tables.length + 1 ≤ maxLen by have := hS.sizes.tables; unfold maxLen; omega)
  have HK2 := h_ (show (x.tables.length + 1) * 8 ≤ 140737488355328 by have := hS.sizes.tables; omega)
  have HK4 := h_ (show n < 20000 by omega)
  have HK6 := h_ (show x.pT.length + 1 ≤ maxLen by have := hS.sizes.pT; unfold maxLen; omega)
  have HK7 := h_ (show (x.pT.length + 1) * 8 ≤ 140737488355328 by have := hS.sizes.pT; omega)
  have HK8 := h_ (show n + 1 < 20000 by omega)
  have hgl := hS.lt
  obtain ⟨pT, cT, hvT, _⟩ := a0z hS.parts.tables.1
  have c10 := hS.blk.cell 10
  simp only [stC, gz_, gs_] at c10
  rw [hvT] at c10
  clear hS hR ha
  go_enter Tryz.func93, Tryz.ntmps93
  go_wp2_with fail
  refine (HE.out).mono ?_
  rintro e w' ⟨rfl, rfl⟩
  go_wp2_with fail
  go_region_law? ((first
   | (refine f0b rfl _ _ 32 rfl B 26 _ 1 8 l1v rfl (by decide) _ _ _ (by rfl) HO2.out [u64V t] rfl _ (by rfl) (by rfl) (by simp [Value.oneCell', u64V]) HK1.out HK2.out HK3.out ?_; intro v' w3 ho hg hk; obtain ⟨p3, c3, hv3, _⟩ := a0z ho; subst hv3; obtain ⟨f3, hA, hS3⟩ := HS2.out.app_tables t (by rw [hvT]; exact hg) ho (by rw [hvT]; exact hk) HK4.out; have hd := hA.blk.cell 10; have he := hA.blk.free 10; have hgl3 := hA.blk.lt; simp only [stC, gz_, gs_] at hd)
   | (go_simp; go_at_call 130; refine HN.out.mono ?_; rintro e w2 ⟨rfl, hr, hg1⟩; have HS2 := h_ (ST.rd HSD.out hg1 HRL.out.2.1); have HR2 := h_ (RdrL.step HRL.out hr hg1); have HO2 := h_ HS2.out.parts.tables.1; have hd2 := HS2.out.blk.cell 10; have hgl2 := HS2.out.lt; simp only [stC, gz_, gs_] at hd2; rw [hvT] at hd2 HO2; have HK3 := h_ (show B ≤ w2.heap.size from Nat.le_trans HS2.out.le (Nat.le_of_lt hgl2)))))
  all_goals
   have HR3 := h_ (hA.rdr HR2.out (by decide) (by decide) 10 (.slice p3 (x.tables.length + 1) c3))
   have HC3 := h_ (hA.acc ((Acc.refl w f).below (Below.refl _ w).drew |>.rd hg1 HRL.out.2.1) (by decide) 10 (.slice p3 (x.tables.length + 1) c3))
   have HS3 := h_ hS3
   have HO3 := h_ hS3.parts.pT.1
   have HK5 := h_ (show B ≤ (w3.setCell ⟨g, 10, none⟩ (.slice p3 (x.tables.length + 1) c3)).heap.size from Nat.le_trans hS3.le (Nat.le_of_lt hS3.lt))
   obtain ⟨p4, c4, hv4, _⟩ := a0z hS3.parts.pT.1
   have d11 := hS3.blk.cell 11
   simp only [stC, gz_, gs_] at d11
   rw [hv4] at d11 HO3
   clear hA hS3 hd he hd2 HS2 HR2 HO2 HE HN
   generalize w3.setCell ⟨g, 10, none⟩ (.slice p3 (x.tables.length + 1) c3) = w4 at *
   go_wp2_with (at_builtin; refine k1u rfl _ _ 33 rfl B 3 _ 1 8 p0q rfl (by decide) _ _ _ rfl HO3.out [i64V at_] rfl _ rfl rfl (by simp [Value.oneCell', i64V]) HK6.out HK7.out HK5.out ?_)
   intro v5 w5 ho hg hb hk
   obtain ⟨p5, c5, hv5, _⟩ := a0z ho
   subst hv5
   obtain ⟨f5, hA, hS5⟩ := HS3.out.app_pT at_ (by rw [hv4]; exact hg) ho (by rw [hv4]; exact hk) HK8.out
   have hd := hA.blk.cell 11
   have he := hA.blk.free 11
   have hgl5 := hA.blk.lt
   simp only [stC, gz_, gs_] at hd
   have HS5 := h_ hS5
   have HR5 := h_ (hA.rdr HR3.out (by decide) (by decide) 11 (.slice p5 (x.pT.length + 1) c5))
   have HC5 := h_ (hA.acc HC3.out (by decide) 11 (.slice p5 (x.pT.length + 1) c5))
   clear hA hS5
   go_wp2_with fail
   go_end0
   rw [HX.out]
   exact d0d.of HS5.out HR5.out HC5.out
 ·have HX := h_ (p0k tk x s at_ ha).1
  have HE := h_ (y0a hS hR at_ ha)
  clear hS hR ha
  go_enter Tryz.func93, Tryz.ntmps93
  go_wp2_with fail
  refine (HE.out).mono ?_
  rintro e w2 ⟨rfl, hr, hg⟩
  have HR2 := h_ (HR.out.step hr hg)
  have HS2 := h_ ((HS.out.rd hg HR.out.2.1).mono (show n ≤ n + 2 by omega) (by omega))
  have HC2 := h_ ((Acc.refl w f).rd hg HR.out.2.1)
  clear hr hg
  go_wp2_with fail
  go_end0
  rw [HX.out]
  exact d0d.of HS2.out HR2.out HC2.out
theorem k1p {w : World} {f : Nat → Nat} {B g n r tn : Nat} {p : Option Addr} {c : Nat} {tk : List Tk} {s : RS} {x : SrcA} {v : SrcV} (hS : ST w f B g n x v) (hR : RdrL w f r tn p c tk s) (at_ : Int) (hn : n < 19000) :
  Calls Tryz.prog 94 #[.pointer (some ⟨g, 0, none⟩), .pointer (some ⟨r, 0, none⟩), .int .i64 at_] w (d0d w f B g (n + 2) r tn p c tk (n0b tk x s at_)) := by
 have HS := h_ hS
 have HR := h_ hR
 by_cases ha : x.after = 1
 ·have HX := h_ (show n0b tk x s at_ = ({ x with cells := x.cells ++ [((a0c tk s).1, (litV tk (d0z tk (a0c tk s).2 3 ⟨#[61]⟩)).1)], pC := x.pC ++ [at_] }, (litV tk (d0z tk (a0c tk s).2 3 ⟨#[61]⟩)).2) by unfold n0b; rw [if_pos ha])
  have HE := h_ (u0e (r := r) hS at_ ha)
  have HN := h_ (g0f w hR.1)
  have HM := h_ (fun w1 (h : a0y w1 r tn p c tk (a0c tk s).2) => j0n w1 3 ⟨#[61]⟩ h)
  have HV := h_ (fun w1 (hp : ∀ a, p = some a → a.block < w1.heap.size) (h : a0y w1 r tn p c tk (d0z tk (a0c tk s).2 3 ⟨#[61]⟩)) => x0s w1 hp h)
  generalize a0c tk s = y1 at *
  obtain ⟨t, s1⟩ := y1
  simp only at HX HN HM HV
  generalize d0z tk s1 3 ⟨#[61]⟩ = s2 at *
  generalize litV tk s2 = y2 at *
  obtain ⟨u, s3⟩ := y2
  simp only at HX HV
  have HK1 := h_ (show x.cells.length + 1 ≤ maxLen by have := hS.sizes.cells; unfold maxLen; omega)
  have HK2 := h_ (show (x.cells.length + 1) * 16 ≤ 140737488355328 by have := hS.sizes.cells; omega)
  have HK4 := h_ (show n < 20000 by omega)
  have HK6 := h_ (show x.pC.length + 1 ≤ maxLen by have := hS.sizes.pC; unfold maxLen; omega)
  have HK7 := h_ (show (x.pC.length + 1) * 8 ≤ 140737488355328 by have := hS.sizes.pC; omega)
  have HK8 := h_ (show n + 1 < 20000 by omega)
  have hgl := hS.lt
  clear hS hR ha
  go_enter Tryz.func94, Tryz.ntmps94
  go_wp2_with fail
  refine (HE.out).mono ?_
  rintro e w' ⟨rfl, rfl⟩
  go_wp2_with fail
  refine (HN.out).mono ?_
  rintro e w1 ⟨rfl, hr, hg⟩
  have HBa := h_ (bl_ (Below.refl w1.heap.size w1) (.cells #[.int .u64 (t : Nat), .int .u64 0] 79))
  have HS1 := h_ (((HS.out.rd hg HR.out.2.1).relab (d0e f _)).below HBa.out)
  have HR1 := h_ (((HR.out.step hr hg).relab (d0e f _)).below HBa.out)
  have HC1 := h_ ((((Acc.refl w f).rd hg HR.out.2.1).relab (d0e f _)).below HBa.out)
  have HF1 := h_ (d0f f w1.heap.size)
  have HT1 := h_ (show Blk (w1.alloc (.cells #[.int .u64 (t : Nat), .int .u64 0] 79)) 79 w1.heap.size [.int .u64 (t : Nat), .int .u64 0] from Blk.new w1 _ _)
  have HL0 := h_ (show r < w1.heap.size from (HR.out.step hr hg).1.lt)
  clear hr hg HN HE
  go_wp2_with fail
  generalize w1.alloc (.cells #[.int .u64 (t : Nat), .int .u64 0] 79) = wa at *
  generalize e0s f w1.heap.size = f1 at *
  generalize w1.heap.size = h0 at *
  refine (HM.out _ HR1.out.1).mono ?_
  rintro e w2 ⟨rfl, hr, hg⟩
  have HS2 := h_ (HS1.out.rd hg HR1.out.2.1)
  have HR2 := h_ (HR1.out.step hr hg)
  have HC2 := h_ (HC1.out.rd hg HR1.out.2.1)
  have HT2 := h_ (HT1.out.kept hg (by intro e; injection e; have := HL0.out; omega))
  clear hr hg HM HS1 HR1 HC1 HT1
  go_wp2_with fail
  refine (HV.out _ HR2.out.pw HR2.out.1).mono ?_
  rintro e w3 ⟨rfl, hr, hg⟩
  have HS3 := h_ (HS2.out.rd hg HR2.out.2.1)
  have HR3 := h_ (HR2.out.step hr hg)
  have HC3 := h_ (HC2.out.rd hg HR2.out.2.1)
  have HT3 := h_ (HT2.out.kept hg (by intro e; injection e; have := HL0.out; omega))
  clear hr hg HV HS2 HR2 HC2 HT2
  have HS4 := h_ (HS3.out.set15 HF1.out 1 (.int .u64 (u : Nat)))
  have HR4 := h_ (HR3.out.set15 HF1.out 1 (.int .u64 (u : Nat)))
  have HC4 := h_ (HC3.out.set (by rw [HF1.out]; decide) 1 (.int .u64 (u : Nat)))
  have HT4 := h_ (HT3.out.set 1 (.int .u64 (u : Nat)))
  have a1 := HT3.out.cell 1
  have a2 := HT3.out.free 1
  have hh0 := HT3.out.lt
  simp only [gz_, gs_] at a1
  clear HS3 HR3 HC3 HT3
  go_wp2_with fail
  generalize w3.setCell ⟨h0, 1, none⟩ (.int .u64 (u : Nat)) = w4 at *
  clear a1 a2
  have b0 := HT4.out.cell 0
  have b1 := HT4.out.cell 1
  have hd2 := HS4.out.blk.cell 1
  have hgl2 := HS4.out.lt
  simp only [stC, List.set_cons_succ, List.set_cons_zero, gz_, gs_] at hd2 b0 b1
  obtain ⟨pT, cT, hvT, _⟩ := a0z HS4.out.parts.cells.1
  have HSD := h_ (show ST w4.drew f1 B g n x v from HS4.out.below (Below.refl _ _).drew)
  have HO2 := h_ (show w4.drew.ownsRow B 79 2 (.slice pT x.cells.length cT) x.cells.length (cellL x.cells) by rw [← hvT]; exact HSD.out.parts.cells.1)
  have HK3 := h_ (show B ≤ w4.drew.heap.size from Nat.le_trans HS4.out.le (Nat.le_of_lt hgl2))
  rw [hvT] at hd2
  go_region_law? ((refine f0b rfl _ _ 24 rfl B 79 _ 2 16 o1a rfl (by decide) _ _ _ (by rfl) HO2.out [u64V t, u64V u] rfl _ (by rfl) (by rfl) (by simp [Value.oneCell', u64V]) HK1.out HK2.out HK3.out ?_; intro v' w5 ho hg hk; obtain ⟨p3, c3, hv3, _⟩ := a0z ho; subst hv3; obtain ⟨f3, hA, hS3⟩ := HSD.out.app_cells (t, u) (by rw [hvT]; exact hg) ho (by rw [hvT]; exact hk) HK4.out; have hd := hA.blk.cell 1; have he := hA.blk.free 1; have hgl3 := hA.blk.lt; simp only [stC, gz_, gs_] at hd))
  all_goals
   have HR5 := h_ (hA.rdr (HR4.out.below (Below.refl _ _).drew) (by decide) (by decide) 1 (.slice p3 (x.cells.length + 1) c3))
   have HC5 := h_ (hA.acc (HC4.out.below (Below.refl _ _).drew) (by decide) 1 (.slice p3 (x.cells.length + 1) c3))
   have HS5 := h_ hS3
   have HO5 := h_ hS3.parts.pC.1
   have HK5 := h_ (show B ≤ (w5.setCell ⟨g, 1, none⟩ (.slice p3 (x.cells.length + 1) c3)).heap.size from Nat.le_trans hS3.le (Nat.le_of_lt hS3.lt))
   obtain ⟨p6, c6, hv6, _⟩ := a0z hS3.parts.pC.1
   have d11 := hS3.blk.cell 12
   simp only [stC, gz_, gs_] at d11
   rw [hv6] at d11 HO5
   have hgl5 := hS3.lt
   clear hA hS3 hd he hd2 HS4 HR4 HC4 HO2 HSD
   generalize w5.setCell ⟨g, 1, none⟩ (.slice p3 (x.cells.length + 1) c3) = w6 at *
   go_wp2_with (at_builtin; refine k1u rfl _ _ 33 rfl B 3 _ 1 8 p0q rfl (by decide) _ _ _ rfl HO5.out [i64V at_] rfl _ rfl rfl (by simp [Value.oneCell', i64V]) HK6.out HK7.out HK5.out ?_)
   intro v7 w7 ho hg hb hk
   obtain ⟨p7, c7, hv7, _⟩ := a0z ho
   subst hv7
   obtain ⟨f7, hA, hS7⟩ := HS5.out.app_pC at_ (by rw [hv6]; exact hg) ho (by rw [hv6]; exact hk) HK8.out
   have hd := hA.blk.cell 12
   have he := hA.blk.free 12
   have hgl7 := hA.blk.lt
   simp only [stC, gz_, gs_] at hd
   have HS7 := h_ hS7
   have HR7 := h_ (hA.rdr HR5.out (by decide) (by decide) 12 (.slice p7 (x.pC.length + 1) c7))
   have HC7 := h_ (hA.acc HC5.out (by decide) 12 (.slice p7 (x.pC.length + 1) c7))
   clear hA hS7
   go_wp2_with fail
   go_end0
   rw [HX.out]
   exact d0d.of HS7.out HR7.out HC7.out
 ·have HX := h_ (p0k tk x s at_ ha).2
  have HE := h_ (y0a hS hR at_ ha)
  clear hS hR ha
  go_enter Tryz.func94, Tryz.ntmps94
  go_wp2_with fail
  refine (HE.out).mono ?_
  rintro e w2 ⟨rfl, hr, hg⟩
  have HR2 := h_ (HR.out.step hr hg)
  have HS2 := h_ ((HS.out.rd hg HR.out.2.1).mono (show n ≤ n + 2 by omega) (by omega))
  have HC2 := h_ ((Acc.refl w f).rd hg HR.out.2.1)
  clear hr hg
  go_wp2_with fail
  go_end0
  rw [HX.out]
  exact d0d.of HS2.out HR2.out HC2.out
end
section
open Go.RowKit
theorem OwnL.setc {w : World} {f : Nat → Nat} {B l : Nat} {e : TypeId} {size : Nat} {v : Value} {n : Nat} {xs : List Value} (h : OwnL w f B l e size v n xs) {g cap j : Nat} (hv : v = .slice (some ⟨g, 0, none⟩) n cap) (hj : j < n * size) (u : Value) : OwnL (w.setCell ⟨g, j, none⟩ u) f B l e size v n (xs.set j u) := by
 obtain ⟨⟨h1, h2⟩, h3⟩ := h
 refine ⟨⟨by simpa using h1, ?_⟩, h3⟩
 rcases h2 with ⟨h2, _⟩ | ⟨g', cap', cur, hv', hb, hgg, k1, k2, k3, k4⟩
 ·rw [hv] at h2; cases h2
 ·rw [hv] at hv'
  injection hv' with e1 e2 e3
  injection e1 with e1; injection e1 with e1 _ _
  subst e1
  refine .inr ⟨g, cap', cur.setIfInBounds j u, by rw [hv, e3], hb, heap_setCell_same w g j cur _ u hgg, k1, k2, by simpa using k3, ?_⟩
  rw [← k4]; simp [List.take_set]
theorem ST.last {w w' : World} {f f' : Nat → Nat} {B g n n' : Nat} {x : SrcA} {v : SrcV} (h : ST w f B g n x v) {l : List CoreA} {c c' : CoreA} {vl : List CoreV} {cv cv' : CoreV} (hx : x.cores = l ++ [c]) (hvx : v.cvs = vl ++ [cv]) {L : Nat → Prop} (hL : ∀ k, L k → k = lab 10 l.length ∨ k = lab 11 l.length ∨ k = lab 12 l.length ∨ k = lab 7 0) (hG : GL f L w w') (hf : ∀ i, i < w.heap.size → f' i = f i)
  (hrow : OwnL w' f' B (lab 7 0) 82 5 v.vCo (l ++ [c']).length (e0f (vl ++ [cv']) (l ++ [c']))) (hcore : l0o w' f' B l.length cv' c') (hn : n ≤ n') (hn' : n' ≤ 20000) (hc : c'.code.length ≤ n' ∧ c'.hand.length ≤ n' ∧ c'.regs.length = 31) :
  ST w' f' B g n' { x with cores := l ++ [c'] } { v with cvs := vl ++ [cv'] } := by
 have p := h.parts.but (f' := f') hG hf
 have ne : ∀ k i, 1 ≤ k → k ≤ 13 → k ≠ 7 → ¬ ((k = 10 ∨ k = 11 ∨ k = 12) ∧ i = l.length) → ¬ L (lab k i) := fun k i h1 h2 h3 h4 hl => by
  rcases hL _ hl with q | q | q | q <;> unfold lab at q <;> omega
 have hlc := h.parts.lenc
 rw [hx, hvx] at hlc
 have hlv : vl.length = l.length := by simpa using hlc
 have s := h.sizes.mono hn
 refine ⟨h.blk.gl hG (by rw [h.lg]; exact ne 9 0 (by decide) (by decide) (by decide) (by omega)), by rw [hf g h.lt]; exact h.lg, h.le, ⟨p.cells (ne 6 0 (by decide) (by decide) (by decide) (by omega)), hrow, by simp [hlv], ?_, p.cond (ne 8 0 (by decide) (by decide) (by decide) (by omega)), p.tables (ne 1 0 (by decide) (by decide) (by decide) (by omega)), p.pT (ne 2 0 (by decide) (by decide) (by decide) (by omega)), p.pC (ne 3 0 (by decide) (by decide) (by decide) (by omega)), p.pCo (ne 4 0 (by decide) (by decide) (by decide) (by omega)), p.pI (ne 5 0 (by decide) (by decide) (by decide) (by omega)), p.leni, fun i h1 h2 => p.ins i h1 h2 (ne 13 i (by decide) (by decide) (by decide) (by omega))⟩, ⟨s.cells, ?_, s.tables, s.pT, s.pC, s.pCo, s.pI, s.ins, ?_⟩, hn'⟩
 ·intro i h1 h2
  have hl1 : i < l.length + 1 := by simpa using h1
  rcases Nat.lt_or_ge i l.length with hi | hi
  ·have e1 : (l ++ [c'])[i] = l[i] := List.getElem_append_left hi
   have e2 : (vl ++ [cv'])[i] = vl[i]'(by omega) := List.getElem_append_left (by omega)
   have q := p.core i (by rw [hx]; simp; omega) (by rw [hvx]; simp; omega)
   have e3 : x.cores[i]'(by rw [hx]; simp; omega) = l[i] := by
    simp only [hx]; exact List.getElem_append_left hi
   have e4 : v.cvs[i]'(by rw [hvx]; simp; omega) = vl[i]'(by omega) := by
    simp only [hvx]; exact List.getElem_append_left (by omega)
   rw [e3, e4] at q
   show l0o w' f' B i (vl ++ [cv'])[i] (l ++ [c'])[i]
   rw [e1, e2]
   exact ⟨q.1 (ne 10 i (by decide) (by decide) (by decide) (by omega)), q.2.1 (ne 11 i (by decide) (by decide) (by decide) (by omega)), q.2.2 (ne 12 i (by decide) (by decide) (by decide) (by omega))⟩
  ·have hi2 : i = l.length := by omega
   subst hi2
   have e1 : (l ++ [c'])[l.length] = c' := by simp
   have e2 : (vl ++ [cv'])[l.length] = cv' := by rw [List.getElem_append_right (by omega)]; simp [hlv]
   show l0o w' f' B l.length (vl ++ [cv'])[l.length] (l ++ [c'])[l.length]
   rw [e1, e2]; exact hcore
 ·have := s.cores; rw [hx] at this; simpa using this
 ·intro c1 hc1
  rcases List.mem_append.1 hc1 with hc1 | hc1
  ·exact s.code c1 (by rw [hx]; exact List.mem_append_left _ hc1)
  ·have e : c1 = c' := by simpa using hc1
   subst e; exact hc
end
end Go.Proofs.YtmnojnopejhebaaGreat
