/- Appends to a test's rows. -/
import Derived.Test.YtcaifejfkpmeeaaGreatMgas
namespace Go.Proofs.YtcaifejfkpmeeaaGreat
open Go.RowKit
set_option linter.unusedVariables false
set_option linter.unusedSimpArgs false

theorem Sizes.mono {x : SrcA} {n m : Nat} (h : Sizes x n) (hm : n ≤ m) : Sizes x m :=
  ⟨Nat.le_trans h.cells hm, Nat.le_trans h.cores hm, Nat.le_trans h.tables hm, Nat.le_trans h.pT hm, Nat.le_trans h.pC hm, Nat.le_trans h.pCo hm, Nat.le_trans h.pI hm, fun q hq => Nat.le_trans (h.ins q hq) hm, fun c hc => ⟨Nat.le_trans (h.code c hc).1 hm, Nat.le_trans (h.code c hc).2.1 hm, (h.code c hc).2.2⟩⟩
theorem ST.mono {w : World} {f : Nat → Nat} {B g n m : Nat} {x : SrcA} {v : SrcV} (h : ST w f B g n x v) (hm : n ≤ m) (h2 : m ≤ 20000) : ST w f B g m x v := ⟨h.blk, h.lg, h.le, h.parts, h.sizes.mono hm, h2⟩
/-- The test's block, one cell set, beside parts that stand already. -/
theorem ST.mk' {w : World} {f : Nat → Nat} {B g n j : Nat} {x' : SrcA} {v' : SrcV} {u : Value} {cs : List Value} (hB : Blk w 56 g cs) (hlg : f g = lab 9 0) (hle : B ≤ g) (hp : Parts w f B x' v') (hc : stC x' v' = cs.set j u) (hs : Sizes x' n) (hn : n ≤ 20000) : ST (w.setCell ⟨g, j, none⟩ u) f B g n x' v' := by
  have hG : GL f (fun l => l = lab 9 0) w (w.setCell ⟨g, j, none⟩ u) := (GL.refl f _ w).set hlg j u
  have p := hp.but (f' := f) hG (fun _ _ => rfl)
  have ne : ∀ k i, 1 ≤ k → k ≤ 13 → k ≠ 9 → ¬ lab k i = lab 9 0 := fun k i h1 h2 h3 => by unfold lab; omega
  exact ⟨by rw [hc]; exact hB.set j u, hlg, hle, ⟨p.cells (ne 6 0 (by decide) (by decide) (by decide)), p.cores (ne 7 0 (by decide) (by decide) (by decide)), p.lenc, fun i h1 h2 => ⟨(p.core i h1 h2).1 (ne 10 i (by decide) (by decide) (by decide)), (p.core i h1 h2).2.1 (ne 11 i (by decide) (by decide) (by decide)), (p.core i h1 h2).2.2 (ne 12 i (by decide) (by decide) (by decide))⟩, p.cond (ne 8 0 (by decide) (by decide) (by decide)), p.tables (ne 1 0 (by decide) (by decide) (by decide)), p.pT (ne 2 0 (by decide) (by decide) (by decide)), p.pC (ne 3 0 (by decide) (by decide) (by decide)), p.pCo (ne 4 0 (by decide) (by decide) (by decide)), p.pI (ne 5 0 (by decide) (by decide) (by decide)), p.leni, fun i h1 h2 => p.ins i h1 h2 (ne 13 i (by decide) (by decide) (by decide))⟩, hs, hn⟩
theorem OwnL.relab2 {w w' : World} {f f' : Nat → Nat} {B l : Nat} {e : TypeId} {size : Nat} {v : Value} {n : Nat} {xs : List Value} (h : OwnL w' f B l e size v n xs) (h0 : OwnL w f B l e size v n xs) (hf : ∀ g, g < w.heap.size → f' g = f g) : OwnL w' f' B l e size v n xs := ⟨h.1, fun g hg => by rw [hf g (h0.lt g hg).2]; exact h.2 g hg⟩
/-- What an append to a row leaves, ahead of the store of its slice. -/
structure AppOut (w : World) (f : Nat → Nat) (B g : Nat) (cs : List Value) (l : Nat) (w' : World) (f' : Nat → Nat) : Prop where
  agree : ∀ i, i < w.heap.size → f' i = f i
  gl : GL f (fun n => n = l) w w'
  blk : Blk w' 56 g cs
  lg : f' g = lab 9 0
theorem ST.app_tables {w w' : World} {f : Nat → Nat} {B g n : Nat} {x : SrcA} {v : SrcV} (h : ST w f B g n x v) {v' : Value} (t : Nat) (hg : w.grownBy w' v.vT.ownBlock) (ho : w'.ownsRow B 26 1 v' (x.tables.length + 1) (x.tables.map u64V ++ [u64V t])) (hk : ∀ k, v'.ownBlock = some k → v.vT.ownBlock = some k ∨ w.heap.size ≤ k) (hn : n < 20000) :
    ∃ f', AppOut w f B g (stC x v) (lab 1 0) w' f' ∧ ST (w'.setCell ⟨g, 10, none⟩ v') f' B g (n + 1) { x with tables := x.tables ++ [t] } { v with vT := v' } := by
  obtain ⟨f', ha, hO, hG⟩ := h.parts.tables.app hg ho hk
  have p := h.parts.but (f' := f') hG ha
  have ne : ∀ k i, 1 ≤ k → k ≤ 13 → k ≠ 1 → ¬ lab k i = lab 1 0 := fun k i h1 h2 h3 => by unfold lab; omega
  have hnew : OwnL w' f' B (lab 1 0) 26 1 v' (x.tables ++ [t]).length ((x.tables ++ [t]).map u64V) := by
    simpa using hO
  have hB : Blk w' 56 g (stC x v) := h.blk.gl hG (by rw [h.lg]; exact ne 9 0 (by decide) (by decide) (by decide))
  have hlg : f' g = lab 9 0 := by rw [ha g h.lt]; exact h.lg
  refine ⟨f', ⟨ha, hG, hB, hlg⟩, ST.mk' hB hlg h.le (x' := { x with tables := x.tables ++ [t] }) (v' := { v with vT := v' }) ⟨p.cells (ne 6 0 (by decide) (by decide) (by decide)), p.cores (ne 7 0 (by decide) (by decide) (by decide)), p.lenc, fun i h1 h2 => ⟨(p.core i h1 h2).1 (ne 10 i (by decide) (by decide) (by decide)), (p.core i h1 h2).2.1 (ne 11 i (by decide) (by decide) (by decide)), (p.core i h1 h2).2.2 (ne 12 i (by decide) (by decide) (by decide))⟩, p.cond (ne 8 0 (by decide) (by decide) (by decide)), hnew, p.pT (ne 2 0 (by decide) (by decide) (by decide)), p.pC (ne 3 0 (by decide) (by decide) (by decide)), p.pCo (ne 4 0 (by decide) (by decide) (by decide)), p.pI (ne 5 0 (by decide) (by decide) (by decide)), p.leni, fun i h1 h2 => p.ins i h1 h2 (ne 13 i (by decide) (by decide) (by decide))⟩ rfl ⟨Nat.le_trans h.sizes.cells (Nat.le_succ n), Nat.le_trans h.sizes.cores (Nat.le_succ n), by simp; have := h.sizes.tables; omega, Nat.le_trans h.sizes.pT (Nat.le_succ n), Nat.le_trans h.sizes.pC (Nat.le_succ n), Nat.le_trans h.sizes.pCo (Nat.le_succ n), Nat.le_trans h.sizes.pI (Nat.le_succ n), fun q hq => Nat.le_trans (h.sizes.ins q hq) (Nat.le_succ n), fun c hc => ⟨Nat.le_trans (h.sizes.code c hc).1 (Nat.le_succ n), Nat.le_trans (h.sizes.code c hc).2.1 (Nat.le_succ n), (h.sizes.code c hc).2.2⟩⟩ (by omega)⟩
theorem ST.app_pT {w w' : World} {f : Nat → Nat} {B g n : Nat} {x : SrcA} {v : SrcV} (h : ST w f B g n x v) {v' : Value} (t : Int) (hg : w.grownBy w' v.vPT.ownBlock) (ho : w'.ownsRow B 3 1 v' (x.pT.length + 1) (x.pT.map i64V ++ [i64V t])) (hk : ∀ k, v'.ownBlock = some k → v.vPT.ownBlock = some k ∨ w.heap.size ≤ k) (hn : n < 20000) :
    ∃ f', AppOut w f B g (stC x v) (lab 2 0) w' f' ∧ ST (w'.setCell ⟨g, 11, none⟩ v') f' B g (n + 1) { x with pT := x.pT ++ [t] } { v with vPT := v' } := by
  obtain ⟨f', ha, hO, hG⟩ := h.parts.pT.app hg ho hk
  have p := h.parts.but (f' := f') hG ha
  have ne : ∀ k i, 1 ≤ k → k ≤ 13 → k ≠ 2 → ¬ lab k i = lab 2 0 := fun k i h1 h2 h3 => by unfold lab; omega
  have hnew : OwnL w' f' B (lab 2 0) 3 1 v' (x.pT ++ [t]).length ((x.pT ++ [t]).map i64V) := by
    simpa using hO
  have hB : Blk w' 56 g (stC x v) := h.blk.gl hG (by rw [h.lg]; exact ne 9 0 (by decide) (by decide) (by decide))
  have hlg : f' g = lab 9 0 := by rw [ha g h.lt]; exact h.lg
  refine ⟨f', ⟨ha, hG, hB, hlg⟩, ST.mk' hB hlg h.le (x' := { x with pT := x.pT ++ [t] }) (v' := { v with vPT := v' }) ⟨p.cells (ne 6 0 (by decide) (by decide) (by decide)), p.cores (ne 7 0 (by decide) (by decide) (by decide)), p.lenc, fun i h1 h2 => ⟨(p.core i h1 h2).1 (ne 10 i (by decide) (by decide) (by decide)), (p.core i h1 h2).2.1 (ne 11 i (by decide) (by decide) (by decide)), (p.core i h1 h2).2.2 (ne 12 i (by decide) (by decide) (by decide))⟩, p.cond (ne 8 0 (by decide) (by decide) (by decide)), p.tables (ne 1 0 (by decide) (by decide) (by decide)), hnew, p.pC (ne 3 0 (by decide) (by decide) (by decide)), p.pCo (ne 4 0 (by decide) (by decide) (by decide)), p.pI (ne 5 0 (by decide) (by decide) (by decide)), p.leni, fun i h1 h2 => p.ins i h1 h2 (ne 13 i (by decide) (by decide) (by decide))⟩ rfl ⟨Nat.le_trans h.sizes.cells (Nat.le_succ n), Nat.le_trans h.sizes.cores (Nat.le_succ n), Nat.le_trans h.sizes.tables (Nat.le_succ n), by simp; have := h.sizes.pT; omega, Nat.le_trans h.sizes.pC (Nat.le_succ n), Nat.le_trans h.sizes.pCo (Nat.le_succ n), Nat.le_trans h.sizes.pI (Nat.le_succ n), fun q hq => Nat.le_trans (h.sizes.ins q hq) (Nat.le_succ n), fun c hc => ⟨Nat.le_trans (h.sizes.code c hc).1 (Nat.le_succ n), Nat.le_trans (h.sizes.code c hc).2.1 (Nat.le_succ n), (h.sizes.code c hc).2.2⟩⟩ (by omega)⟩
theorem ST.app_pC {w w' : World} {f : Nat → Nat} {B g n : Nat} {x : SrcA} {v : SrcV} (h : ST w f B g n x v) {v' : Value} (t : Int) (hg : w.grownBy w' v.vPC.ownBlock) (ho : w'.ownsRow B 3 1 v' (x.pC.length + 1) (x.pC.map i64V ++ [i64V t])) (hk : ∀ k, v'.ownBlock = some k → v.vPC.ownBlock = some k ∨ w.heap.size ≤ k) (hn : n < 20000) :
    ∃ f', AppOut w f B g (stC x v) (lab 3 0) w' f' ∧ ST (w'.setCell ⟨g, 12, none⟩ v') f' B g (n + 1) { x with pC := x.pC ++ [t] } { v with vPC := v' } := by
  obtain ⟨f', ha, hO, hG⟩ := h.parts.pC.app hg ho hk
  have p := h.parts.but (f' := f') hG ha
  have ne : ∀ k i, 1 ≤ k → k ≤ 13 → k ≠ 3 → ¬ lab k i = lab 3 0 := fun k i h1 h2 h3 => by unfold lab; omega
  have hnew : OwnL w' f' B (lab 3 0) 3 1 v' (x.pC ++ [t]).length ((x.pC ++ [t]).map i64V) := by
    simpa using hO
  have hB : Blk w' 56 g (stC x v) := h.blk.gl hG (by rw [h.lg]; exact ne 9 0 (by decide) (by decide) (by decide))
  have hlg : f' g = lab 9 0 := by rw [ha g h.lt]; exact h.lg
  refine ⟨f', ⟨ha, hG, hB, hlg⟩, ST.mk' hB hlg h.le (x' := { x with pC := x.pC ++ [t] }) (v' := { v with vPC := v' }) ⟨p.cells (ne 6 0 (by decide) (by decide) (by decide)), p.cores (ne 7 0 (by decide) (by decide) (by decide)), p.lenc, fun i h1 h2 => ⟨(p.core i h1 h2).1 (ne 10 i (by decide) (by decide) (by decide)), (p.core i h1 h2).2.1 (ne 11 i (by decide) (by decide) (by decide)), (p.core i h1 h2).2.2 (ne 12 i (by decide) (by decide) (by decide))⟩, p.cond (ne 8 0 (by decide) (by decide) (by decide)), p.tables (ne 1 0 (by decide) (by decide) (by decide)), p.pT (ne 2 0 (by decide) (by decide) (by decide)), hnew, p.pCo (ne 4 0 (by decide) (by decide) (by decide)), p.pI (ne 5 0 (by decide) (by decide) (by decide)), p.leni, fun i h1 h2 => p.ins i h1 h2 (ne 13 i (by decide) (by decide) (by decide))⟩ rfl ⟨Nat.le_trans h.sizes.cells (Nat.le_succ n), Nat.le_trans h.sizes.cores (Nat.le_succ n), Nat.le_trans h.sizes.tables (Nat.le_succ n), Nat.le_trans h.sizes.pT (Nat.le_succ n), by simp; have := h.sizes.pC; omega, Nat.le_trans h.sizes.pCo (Nat.le_succ n), Nat.le_trans h.sizes.pI (Nat.le_succ n), fun q hq => Nat.le_trans (h.sizes.ins q hq) (Nat.le_succ n), fun c hc => ⟨Nat.le_trans (h.sizes.code c hc).1 (Nat.le_succ n), Nat.le_trans (h.sizes.code c hc).2.1 (Nat.le_succ n), (h.sizes.code c hc).2.2⟩⟩ (by omega)⟩
theorem ST.app_pCo {w w' : World} {f : Nat → Nat} {B g n : Nat} {x : SrcA} {v : SrcV} (h : ST w f B g n x v) {v' : Value} (t : Int) (hg : w.grownBy w' v.vPCo.ownBlock) (ho : w'.ownsRow B 3 1 v' (x.pCo.length + 1) (x.pCo.map i64V ++ [i64V t])) (hk : ∀ k, v'.ownBlock = some k → v.vPCo.ownBlock = some k ∨ w.heap.size ≤ k) (hn : n < 20000) :
    ∃ f', AppOut w f B g (stC x v) (lab 4 0) w' f' ∧ ST (w'.setCell ⟨g, 13, none⟩ v') f' B g (n + 1) { x with pCo := x.pCo ++ [t] } { v with vPCo := v' } := by
  obtain ⟨f', ha, hO, hG⟩ := h.parts.pCo.app hg ho hk
  have p := h.parts.but (f' := f') hG ha
  have ne : ∀ k i, 1 ≤ k → k ≤ 13 → k ≠ 4 → ¬ lab k i = lab 4 0 := fun k i h1 h2 h3 => by unfold lab; omega
  have hnew : OwnL w' f' B (lab 4 0) 3 1 v' (x.pCo ++ [t]).length ((x.pCo ++ [t]).map i64V) := by
    simpa using hO
  have hB : Blk w' 56 g (stC x v) := h.blk.gl hG (by rw [h.lg]; exact ne 9 0 (by decide) (by decide) (by decide))
  have hlg : f' g = lab 9 0 := by rw [ha g h.lt]; exact h.lg
  refine ⟨f', ⟨ha, hG, hB, hlg⟩, ST.mk' hB hlg h.le (x' := { x with pCo := x.pCo ++ [t] }) (v' := { v with vPCo := v' }) ⟨p.cells (ne 6 0 (by decide) (by decide) (by decide)), p.cores (ne 7 0 (by decide) (by decide) (by decide)), p.lenc, fun i h1 h2 => ⟨(p.core i h1 h2).1 (ne 10 i (by decide) (by decide) (by decide)), (p.core i h1 h2).2.1 (ne 11 i (by decide) (by decide) (by decide)), (p.core i h1 h2).2.2 (ne 12 i (by decide) (by decide) (by decide))⟩, p.cond (ne 8 0 (by decide) (by decide) (by decide)), p.tables (ne 1 0 (by decide) (by decide) (by decide)), p.pT (ne 2 0 (by decide) (by decide) (by decide)), p.pC (ne 3 0 (by decide) (by decide) (by decide)), hnew, p.pI (ne 5 0 (by decide) (by decide) (by decide)), p.leni, fun i h1 h2 => p.ins i h1 h2 (ne 13 i (by decide) (by decide) (by decide))⟩ rfl ⟨Nat.le_trans h.sizes.cells (Nat.le_succ n), Nat.le_trans h.sizes.cores (Nat.le_succ n), Nat.le_trans h.sizes.tables (Nat.le_succ n), Nat.le_trans h.sizes.pT (Nat.le_succ n), Nat.le_trans h.sizes.pC (Nat.le_succ n), by simp; have := h.sizes.pCo; omega, Nat.le_trans h.sizes.pI (Nat.le_succ n), fun q hq => Nat.le_trans (h.sizes.ins q hq) (Nat.le_succ n), fun c hc => ⟨Nat.le_trans (h.sizes.code c hc).1 (Nat.le_succ n), Nat.le_trans (h.sizes.code c hc).2.1 (Nat.le_succ n), (h.sizes.code c hc).2.2⟩⟩ (by omega)⟩
theorem ST.app_cells {w w' : World} {f : Nat → Nat} {B g n : Nat} {x : SrcA} {v : SrcV} (h : ST w f B g n x v) {v' : Value} (t : Nat × Nat) (hg : w.grownBy w' v.vC.ownBlock) (ho : w'.ownsRow B 51 2 v' (x.cells.length + 1) (cellL x.cells ++ [u64V t.1, u64V t.2])) (hk : ∀ k, v'.ownBlock = some k → v.vC.ownBlock = some k ∨ w.heap.size ≤ k) (hn : n < 20000) :
    ∃ f', AppOut w f B g (stC x v) (lab 6 0) w' f' ∧ ST (w'.setCell ⟨g, 1, none⟩ v') f' B g (n + 1) { x with cells := x.cells ++ [t] } { v with vC := v' } := by
  obtain ⟨f', ha, hO, hG⟩ := h.parts.cells.app hg ho hk
  have p := h.parts.but (f' := f') hG ha
  have ne : ∀ k i, 1 ≤ k → k ≤ 13 → k ≠ 6 → ¬ lab k i = lab 6 0 := fun k i h1 h2 h3 => by unfold lab; omega
  have hnew : OwnL w' f' B (lab 6 0) 51 2 v' (x.cells ++ [t]).length (cellL (x.cells ++ [t])) := by
    simpa [cellL] using hO
  have hB : Blk w' 56 g (stC x v) := h.blk.gl hG (by rw [h.lg]; exact ne 9 0 (by decide) (by decide) (by decide))
  have hlg : f' g = lab 9 0 := by rw [ha g h.lt]; exact h.lg
  refine ⟨f', ⟨ha, hG, hB, hlg⟩, ST.mk' hB hlg h.le (x' := { x with cells := x.cells ++ [t] }) (v' := { v with vC := v' }) ⟨hnew, p.cores (ne 7 0 (by decide) (by decide) (by decide)), p.lenc, fun i h1 h2 => ⟨(p.core i h1 h2).1 (ne 10 i (by decide) (by decide) (by decide)), (p.core i h1 h2).2.1 (ne 11 i (by decide) (by decide) (by decide)), (p.core i h1 h2).2.2 (ne 12 i (by decide) (by decide) (by decide))⟩, p.cond (ne 8 0 (by decide) (by decide) (by decide)), p.tables (ne 1 0 (by decide) (by decide) (by decide)), p.pT (ne 2 0 (by decide) (by decide) (by decide)), p.pC (ne 3 0 (by decide) (by decide) (by decide)), p.pCo (ne 4 0 (by decide) (by decide) (by decide)), p.pI (ne 5 0 (by decide) (by decide) (by decide)), p.leni, fun i h1 h2 => p.ins i h1 h2 (ne 13 i (by decide) (by decide) (by decide))⟩ rfl ⟨by simp; have := h.sizes.cells; omega, Nat.le_trans h.sizes.cores (Nat.le_succ n), Nat.le_trans h.sizes.tables (Nat.le_succ n), Nat.le_trans h.sizes.pT (Nat.le_succ n), Nat.le_trans h.sizes.pC (Nat.le_succ n), Nat.le_trans h.sizes.pCo (Nat.le_succ n), Nat.le_trans h.sizes.pI (Nat.le_succ n), fun q hq => Nat.le_trans (h.sizes.ins q hq) (Nat.le_succ n), fun c hc => ⟨Nat.le_trans (h.sizes.code c hc).1 (Nat.le_succ n), Nat.le_trans (h.sizes.code c hc).2.1 (Nat.le_succ n), (h.sizes.code c hc).2.2⟩⟩ (by omega)⟩
theorem coresC_app (cvs : List CoreV) (cs : List CoreA) (h : cvs.length = cs.length) (cv : CoreV) (c : CoreA) : coresC (cvs ++ [cv]) (cs ++ [c]) = coresC cvs cs ++ coreC cv c := by
  induction cvs generalizing cs with
  | nil => cases cs with
    | nil => simp [coresC]
    | cons _ _ => simp at h
  | cons a l ih => cases cs with
    | nil => simp at h
    | cons b m => simp only [List.cons_append, coresC]; rw [ih m (by simpa using h)]; simp
theorem ST.app_cores {w w' : World} {f : Nat → Nat} {B g n : Nat} {x : SrcA} {v : SrcV} (h : ST w f B g n x v) {v' : Value} (cv : CoreV) (c : CoreA) (hO1 : CoreOwn w f B x.cores.length cv c) (hs : c.code.length ≤ n ∧ c.hand.length ≤ n ∧ c.regs.length = 31) (hg : w.grownBy w' v.vCo.ownBlock) (ho : w'.ownsRow B 49 5 v' (x.cores.length + 1) (coresC v.cvs x.cores ++ coreC cv c)) (hk : ∀ k, v'.ownBlock = some k → v.vCo.ownBlock = some k ∨ w.heap.size ≤ k) (hn : n < 20000) :
    ∃ f', AppOut w f B g (stC x v) (lab 7 0) w' f' ∧ ST (w'.setCell ⟨g, 2, none⟩ v') f' B g (n + 1) { x with cores := x.cores ++ [c] } { v with vCo := v', cvs := v.cvs ++ [cv] } := by
  obtain ⟨f', ha, hO, hG⟩ := h.parts.cores.app hg ho hk
  have p := h.parts.but (f' := f') hG ha
  have ne : ∀ k i, 1 ≤ k → k ≤ 13 → k ≠ 7 → ¬ lab k i = lab 7 0 := fun k i h1 h2 h3 => by unfold lab; omega
  have hlc := h.parts.lenc
  have hnew : OwnL w' f' B (lab 7 0) 49 5 v' (x.cores ++ [c]).length (coresC (v.cvs ++ [cv]) (x.cores ++ [c])) := by
    rw [coresC_app _ _ hlc]; simpa using hO
  have hcore : ∀ (i : Nat) (h1 : i < (x.cores ++ [c]).length) (h2 : i < (v.cvs ++ [cv]).length), CoreOwn w' f' B i (v.cvs ++ [cv])[i] (x.cores ++ [c])[i] := by
    intro i h1 h2
    have hl1 : i < x.cores.length + 1 := by simpa using h1
    rcases Nat.lt_or_ge i x.cores.length with hi | hi
    · rw [List.getElem_append_left hi, List.getElem_append_left (by omega)]
      exact ⟨(p.core i hi (by omega)).1 (ne 10 i (by decide) (by decide) (by decide)), (p.core i hi (by omega)).2.1 (ne 11 i (by decide) (by decide) (by decide)), (p.core i hi (by omega)).2.2 (ne 12 i (by decide) (by decide) (by decide))⟩
    · have hi2 : i = x.cores.length := by omega
      subst hi2
      have e1 : (x.cores ++ [c])[x.cores.length] = c := by simp
      have e2 : (v.cvs ++ [cv])[x.cores.length] = cv := by
        rw [List.getElem_append_right (by omega)]; simp
      rw [e1, e2]
      exact ⟨(hO1.1.gl hG (ne 10 _ (by decide) (by decide) (by decide))).relab2 hO1.1 ha, (hO1.2.1.gl hG (ne 11 _ (by decide) (by decide) (by decide))).relab2 hO1.2.1 ha, (hO1.2.2.gl hG (ne 12 _ (by decide) (by decide) (by decide))).relab2 hO1.2.2 ha⟩
  have hB : Blk w' 56 g (stC x v) := h.blk.gl hG (by rw [h.lg]; exact ne 9 0 (by decide) (by decide) (by decide))
  have hlg : f' g = lab 9 0 := by rw [ha g h.lt]; exact h.lg
  refine ⟨f', ⟨ha, hG, hB, hlg⟩, ST.mk' hB hlg h.le (x' := { x with cores := x.cores ++ [c] }) (v' := { v with vCo := v', cvs := v.cvs ++ [cv] }) ⟨p.cells (ne 6 0 (by decide) (by decide) (by decide)), hnew, by simp [p.lenc], hcore, p.cond (ne 8 0 (by decide) (by decide) (by decide)), p.tables (ne 1 0 (by decide) (by decide) (by decide)), p.pT (ne 2 0 (by decide) (by decide) (by decide)), p.pC (ne 3 0 (by decide) (by decide) (by decide)), p.pCo (ne 4 0 (by decide) (by decide) (by decide)), p.pI (ne 5 0 (by decide) (by decide) (by decide)), p.leni, fun i h1 h2 => p.ins i h1 h2 (ne 13 i (by decide) (by decide) (by decide))⟩ rfl ⟨Nat.le_trans h.sizes.cells (Nat.le_succ n), by simp; have := h.sizes.cores; omega, Nat.le_trans h.sizes.tables (Nat.le_succ n), Nat.le_trans h.sizes.pT (Nat.le_succ n), Nat.le_trans h.sizes.pC (Nat.le_succ n), Nat.le_trans h.sizes.pCo (Nat.le_succ n), Nat.le_trans h.sizes.pI (Nat.le_succ n), fun q hq => Nat.le_trans (h.sizes.ins q hq) (Nat.le_succ n), fun c' hc => ?_⟩ (by omega)⟩
  rcases List.mem_append.1 hc with hc | hc
  · exact ⟨Nat.le_trans (h.sizes.code c' hc).1 (Nat.le_succ n), Nat.le_trans (h.sizes.code c' hc).2.1 (Nat.le_succ n), (h.sizes.code c' hc).2.2⟩
  · have hce : c' = c := by simpa using hc
    subst hce
    exact ⟨Nat.le_trans hs.1 (Nat.le_succ n), Nat.le_trans hs.2.1 (Nat.le_succ n), hs.2.2⟩
theorem ST.app_pI {w w' : World} {f : Nat → Nat} {B g n : Nat} {x : SrcA} {v : SrcV} (h : ST w f B g n x v) {v' : Value} (hg : w.grownBy w' v.vPI.ownBlock) (ho : w'.ownsRow B 33 1 v' (x.pI.length + 1) (v.ivs ++ [.slice none 0 0])) (hk : ∀ k, v'.ownBlock = some k → v.vPI.ownBlock = some k ∨ w.heap.size ≤ k) (hn : n < 20000) :
    ∃ f', AppOut w f B g (stC x v) (lab 5 0) w' f' ∧ ST (w'.setCell ⟨g, 14, none⟩ v') f' B g (n + 1) { x with pI := x.pI ++ [[]] } { v with vPI := v', ivs := v.ivs ++ [.slice none 0 0] } := by
  obtain ⟨f', ha, hO, hG⟩ := h.parts.pI.app hg ho hk
  have p := h.parts.but (f' := f') hG ha
  have ne : ∀ k i, 1 ≤ k → k ≤ 13 → k ≠ 5 → ¬ lab k i = lab 5 0 := fun k i h1 h2 h3 => by unfold lab; omega
  have hlc := h.parts.leni
  have hnew : OwnL w' f' B (lab 5 0) 33 1 v' (x.pI ++ [[]]).length (v.ivs ++ [.slice none 0 0]) := by
    simpa using hO
  have hins : ∀ (i : Nat) (h1 : i < (x.pI ++ [[]]).length) (h2 : i < (v.ivs ++ [(.slice none 0 0 : Value)]).length), OwnL w' f' B (lab 13 i) 3 1 (v.ivs ++ [(.slice none 0 0 : Value)])[i] (x.pI ++ [[]])[i].length ((x.pI ++ [[]])[i].map i64V) := by
    intro i h1 h2
    have hl1 : i < x.pI.length + 1 := by simpa using h1
    rcases Nat.lt_or_ge i x.pI.length with hi | hi
    · have e1 : (x.pI ++ [[]])[i] = x.pI[i] := List.getElem_append_left hi
      have e2 : (v.ivs ++ [(.slice none 0 0 : Value)])[i] = v.ivs[i]'(by omega) := List.getElem_append_left (by omega)
      rw [e1, e2]
      exact p.ins i hi (by omega) (ne 13 i (by decide) (by decide) (by decide))
    · have hi2 : i = x.pI.length := by omega
      subst hi2
      have e1 : (x.pI ++ [[]])[x.pI.length] = [] := by simp
      have e2 : (v.ivs ++ [(.slice none 0 0 : Value)])[x.pI.length] = .slice none 0 0 := by
        rw [List.getElem_append_right (by omega)]; simp
      rw [e1, e2]
      exact OwnL.nil _ _ _ _ _ _
  have hB : Blk w' 56 g (stC x v) := h.blk.gl hG (by rw [h.lg]; exact ne 9 0 (by decide) (by decide) (by decide))
  have hlg : f' g = lab 9 0 := by rw [ha g h.lt]; exact h.lg
  refine ⟨f', ⟨ha, hG, hB, hlg⟩, ST.mk' hB hlg h.le (x' := { x with pI := x.pI ++ [[]] }) (v' := { v with vPI := v', ivs := v.ivs ++ [.slice none 0 0] }) ⟨p.cells (ne 6 0 (by decide) (by decide) (by decide)), p.cores (ne 7 0 (by decide) (by decide) (by decide)), p.lenc, fun i h1 h2 => ⟨(p.core i h1 h2).1 (ne 10 i (by decide) (by decide) (by decide)), (p.core i h1 h2).2.1 (ne 11 i (by decide) (by decide) (by decide)), (p.core i h1 h2).2.2 (ne 12 i (by decide) (by decide) (by decide))⟩, p.cond (ne 8 0 (by decide) (by decide) (by decide)), p.tables (ne 1 0 (by decide) (by decide) (by decide)), p.pT (ne 2 0 (by decide) (by decide) (by decide)), p.pC (ne 3 0 (by decide) (by decide) (by decide)), p.pCo (ne 4 0 (by decide) (by decide) (by decide)), hnew, by simp [p.leni], hins⟩ rfl ⟨Nat.le_trans h.sizes.cells (Nat.le_succ n), Nat.le_trans h.sizes.cores (Nat.le_succ n), Nat.le_trans h.sizes.tables (Nat.le_succ n), Nat.le_trans h.sizes.pT (Nat.le_succ n), Nat.le_trans h.sizes.pC (Nat.le_succ n), Nat.le_trans h.sizes.pCo (Nat.le_succ n), by simp; have := h.sizes.pI; omega, fun q hq => ?_, fun c hc => ⟨Nat.le_trans (h.sizes.code c hc).1 (Nat.le_succ n), Nat.le_trans (h.sizes.code c hc).2.1 (Nat.le_succ n), (h.sizes.code c hc).2.2⟩⟩ (by omega)⟩
  rcases List.mem_append.1 hq with hq | hq
  · exact Nat.le_trans (h.sizes.ins q hq) (Nat.le_succ n)
  · have hce : q = [] := by simpa using hq
    subst hce
    simp
end Go.Proofs.YtcaifejfkpmeeaaGreat
