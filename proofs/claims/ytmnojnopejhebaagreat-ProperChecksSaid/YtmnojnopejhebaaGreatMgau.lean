/- The lines of a text: how many, where. -/
import Derived.Test.YtmnojnopejhebaaGreatMgag
import Derived.Test.YtmnojnopejhebaaGreatMgah
import Derived.Test.YtmnojnopejhebaaGreatMgat
namespace Go.Proofs.YtmnojnopejhebaaGreat
set_option linter.unusedVariables false
set_option linter.unusedSimpArgs false
set_option maxRecDepth 100000
set_option maxHeartbeats 25600000
section
open Go.RowKit
theorem OwnL.cell {w : World} {f : Nat → Nat} {B l : Nat} {e : TypeId} {size : Nat} {v : Value} {n : Nat} {xs : List Value} (h : OwnL w f B l e size v n xs) {g cap j : Nat} (hv : v = .slice (some ⟨g, 0, none⟩) n cap) (hj : j < n * size) : w.cell? ⟨g, j, none⟩ = xs[j]? ∧ w.frozen? ⟨g, j, none⟩ = false ∧ g < w.heap.size := by
 obtain ⟨⟨h1, h2⟩, h3⟩ := h
 rcases h2 with ⟨h2, _⟩ | ⟨g', cap', cur, hv', hb, hgg, k1, k2, k3, k4⟩
 ·rw [hv] at h2; cases h2
 ·rw [hv] at hv'
  injection hv' with e1 e2 e3
  injection e1 with e1; injection e1 with e1 _ _
  subst e1
  refine ⟨?_, frozen_of_row w g j _ _ hgg, (Array.getElem?_eq_some_iff.1 hgg).1⟩
  rw [cell_of_row _ _ _ _ _ _ hgg, ← k4, List.getElem?_take_of_lt hj]; simp
theorem OwnL.some {w : World} {f : Nat → Nat} {B l : Nat} {e : TypeId} {size : Nat} {v : Value} {n : Nat} {xs : List Value} (h : OwnL w f B l e size v n xs) (hn : 0 < n) : ∃ g cap, v = .slice (some ⟨g, 0, none⟩) n cap ∧ f g = l := by
 obtain ⟨⟨h1, h2⟩, h3⟩ := h
 rcases h2 with ⟨h2, h4⟩ | ⟨g', cap', cur, hv', hb, hgg, k1, k2, k3, k4⟩
 ·omega
 ·exact ⟨g', cap', hv', h3 g' (by rw [hv']; rfl)⟩
theorem j0c : ∀ (vl : List CoreV) (l : List CoreA), vl.length = l.length → (e0f vl l).length = l.length * 5
 | [], [], _ => rfl
 | [], _ :: _, h => by simp at h
 | _ :: _, [], h => by simp at h
 | a :: vl, b :: l, h => by simp only [e0f, List.length_append, List.length_cons]; rw [j0c vl l (by simpa using h)]; simp [g0v]; omega
theorem g0l (vl : List CoreV) (l : List CoreA) (h : vl.length = l.length) (cv : CoreV) (c : CoreA) : e0f (vl ++ [cv]) (l ++ [c]) = e0f vl l ++ g0v cv c := r0d vl l h cv c
theorem m0x (vl : List CoreV) (l : List CoreA) (h : vl.length = l.length) (cv : CoreV) (c : CoreA) (k : Nat) : (e0f (vl ++ [cv]) (l ++ [c]))[l.length * 5 + k]? = (g0v cv c)[k]? := by
 rw [g0l vl l h, List.getElem?_append_right (by rw [j0c vl l h]; omega), j0c vl l h]; congr 1; omega
theorem r0c (vl : List CoreV) (l : List CoreA) (h : vl.length = l.length) (cv : CoreV) (c : CoreA) (k : Nat) (u : Value) : (e0f (vl ++ [cv]) (l ++ [c])).set (l.length * 5 + k) u = e0f vl l ++ (g0v cv c).set k u := by
 rw [g0l vl l h, List.set_append_right _ _ (by rw [j0c vl l h]; omega), j0c vl l h]; congr 2; omega
theorem i0y {α : Type} : ∀ (l : List α) (n : Nat), l.length = n + 1 → ∃ a b, l = a ++ [b] ∧ a.length = n := fun l n h => by
 have hne : l ≠ [] := by intro e; rw [e] at h; simp at h
 exact ⟨l.dropLast, l.getLast hne, (List.dropLast_concat_getLast hne).symm, by simp [h]⟩
section
variable {w w' : World} {f f' : Nat → Nat} {B g n : Nat} {x : SrcA} {v : SrcV} {l : List CoreA} {c : CoreA} {vl : List CoreV} {cv : CoreV}
theorem ST.lenl (h : ST w f B g n x v) (hx : x.cores = l ++ [c]) (hvx : v.cvs = vl ++ [cv]) : vl.length = l.length := by
 have hlc := h.parts.lenc
 rw [hx, hvx] at hlc; simpa using hlc
theorem ST.core_own (h : ST w f B g n x v) (hx : x.cores = l ++ [c]) (hvx : v.cvs = vl ++ [cv]) : l0o w f B l.length cv c := by
 have hlv := h.lenl hx hvx
 have q := h.parts.core l.length (by rw [hx]; simp) (by rw [hvx]; simp [hlv])
 have e1 : v.cvs[l.length]'(by rw [hvx]; simp [hlv]) = cv := by
  simp only [hvx]; rw [List.getElem_append_right (by omega)]; simp [hlv]
 have e2 : x.cores[l.length]'(by rw [hx]; simp) = c := by simp only [hx]; simp
 rw [e1, e2] at q; exact q
theorem ST.lastcore (h : ST w f B g n x v) (hx : x.cores = l ++ [c]) : ∃ vl cv gc cap gr capr pc capc ph caph, v.cvs = vl ++ [cv] ∧ v.vCo = .slice (some ⟨gc, 0, none⟩) (l.length + 1) cap ∧ cv.r = .slice (some ⟨gr, 0, none⟩) 31 capr ∧ cv.c = .slice pc c.code.length capc ∧ cv.h = .slice ph c.hand.length caph := by
 have hlc := h.parts.lenc
 rw [hx] at hlc
 obtain ⟨vl, cv, hvx, _⟩ := i0y v.cvs l.length (by simpa using hlc)
 have q := h.core_own hx hvx
 obtain ⟨gc, cap, hvo, _⟩ := h.parts.cores.some (by rw [hx]; simp)
 have h31 := (h.sizes.code c (by rw [hx]; simp)).2.2
 obtain ⟨gr, capr, hvr, _⟩ := q.1.some (by rw [h31]; decide)
 obtain ⟨pc, capc, hvc, _⟩ := a0z q.2.1.1
 obtain ⟨ph, caph, hvh, _⟩ := a0z q.2.2.1
 rw [h31] at hvr
 rw [hx] at hvo
 exact ⟨vl, cv, gc, cap, gr, capr, pc, capc, ph, caph, hvx, by simpa using hvo, hvr, hvc, hvh⟩
theorem ST.coreCell (h : ST w f B g n x v) (hx : x.cores = l ++ [c]) (hvx : v.cvs = vl ++ [cv]) {gc cap : Nat} (hvo : v.vCo = .slice (some ⟨gc, 0, none⟩) (l.length + 1) cap) (k : Nat) (hk : k < 5) : w.cell? ⟨gc, l.length * 5 + k, none⟩ = (g0v cv c)[k]? ∧ w.frozen? ⟨gc, l.length * 5 + k, none⟩ = false ∧ gc < w.heap.size := by
 have hrow := h.parts.cores
 rw [hx, hvx] at hrow
 have hl : (l ++ [c]).length = l.length + 1 := by simp
 rw [hl] at hrow
 have q := hrow.cell hvo (j := l.length * 5 + k) (by omega)
 rw [m0x vl l (h.lenl hx hvx)] at q
 exact q
theorem ST.gcl (h : ST w f B g n x v) {gc k cap : Nat} (hvo : v.vCo = .slice (some ⟨gc, 0, none⟩) k cap) : f gc = lab 7 0 := h.parts.cores.2 gc (by rw [hvo]; rfl)
theorem ST.setreg (h : ST w f B g n x v) (hx : x.cores = l ++ [c]) (hvx : v.cvs = vl ++ [cv]) {gr capr : Nat} (hvr : cv.r = .slice (some ⟨gr, 0, none⟩) 31 capr) {j : Nat} (hj : j < 31) (u : Nat) :
  ST (w.setCell ⟨gr, j, none⟩ (.int .u64 (u : Nat))) f B g n { x with cores := l ++ [{ c with regs := c.regs.set j u }] } { v with cvs := vl ++ [cv] } ∧ f gr = lab 10 l.length := by
 have q := h.core_own hx hvx
 have hlr : f gr = lab 10 l.length := q.1.2 gr (by rw [hvr]; rfl)
 have h31 := (h.sizes.code c (by rw [hx]; simp))
 have hG : GL f (fun k => k = lab 10 l.length) w (w.setCell ⟨gr, j, none⟩ (.int .u64 (u : Nat))) := (GL.refl f _ w).set hlr j _
 have hrow := h.parts.cores
 rw [hx, hvx] at hrow
 have e : e0f (vl ++ [cv]) (l ++ [{ c with regs := c.regs.set j u }]) = e0f (vl ++ [cv]) (l ++ [c]) := by
  rw [g0l vl l (h.lenl hx hvx), g0l vl l (h.lenl hx hvx)]; rfl
 refine ⟨h.last (c' := { c with regs := c.regs.set j u }) hx hvx (L := fun k => k = lab 10 l.length) (fun k hk => .inl hk) hG (fun _ _ => rfl) ?_ ⟨?_, ?_, ?_⟩ (Nat.le_refl _) h.small ⟨h31.1, h31.2.1, by simp [h31.2.2]⟩, hlr⟩
 ·rw [e]
  have hl : (l ++ [{ c with regs := c.regs.set j u }]).length = (l ++ [c]).length := by simp
  rw [hl]
  exact hrow.gl hG (by unfold lab; omega)
 ·have q1 := q.1.setc (by rw [h31.2.2]; exact hvr) (j := j) (by rw [h31.2.2]; omega) (.int .u64 (u : Nat))
  have e2 : ({ c with regs := c.regs.set j u } : CoreA).regs.length = c.regs.length := by simp
  rw [e2]
  have e3 : ({ c with regs := c.regs.set j u } : CoreA).regs.map u64V = (c.regs.map u64V).set j (.int .u64 (u : Nat)) := by
   show (c.regs.set j u).map u64V = _
   rw [List.map_set]; rfl
  rw [e3]; exact q1
 ·exact q.2.1.gl hG (by unfold lab; omega)
 ·exact q.2.2.gl hG (by unfold lab; omega)
theorem ST.regCell (h : ST w f B g n x v) (hx : x.cores = l ++ [c]) (hvx : v.cvs = vl ++ [cv]) {gr capr : Nat} (hvr : cv.r = .slice (some ⟨gr, 0, none⟩) 31 capr) {j : Nat} (hj : j < 31) : (∃ u, w.cell? ⟨gr, j, none⟩ = some u) ∧ w.frozen? ⟨gr, j, none⟩ = false ∧ gr < w.heap.size := by
 have q := (h.core_own hx hvx).1
 have h31 := (h.sizes.code c (by rw [hx]; simp)).2.2
 rw [h31] at q
 have k := q.cell hvr (j := j) (by omega)
 refine ⟨⟨_, k.1.trans (List.getElem?_eq_getElem (by simp [h31]; exact hj))⟩, k.2.1, k.2.2⟩
structure AppC (w : World) (f : Nat → Nat) (gc m k : Nat) (u : Value) (l : Nat) (w' : World) (f' : Nat → Nat) : Prop where
 agree : ∀ i, i < w.heap.size → f' i = f i
 gl : GL f (fun n => n = l) w w'
 cell : w'.cell? ⟨gc, m * 5 + k, none⟩ = some u
 free : w'.frozen? ⟨gc, m * 5 + k, none⟩ = false
 lt : gc < w'.heap.size
 lg : f' gc = lab 7 0
end
section
variable {w w' : World} {f f' : Nat → Nat} {B g n : Nat} {x : SrcA} {v : SrcV} {l : List CoreA} {c : CoreA} {vl : List CoreV} {cv : CoreV}
theorem ST.app_code (h : ST w f B g n x v) (hx : x.cores = l ++ [c]) (hvx : v.cvs = vl ++ [cv]) {gc cap : Nat} (hvo : v.vCo = .slice (some ⟨gc, 0, none⟩) (l.length + 1) cap) {v' : Value} (i : Ins) (hg : w.grownBy w' cv.c.ownBlock) (ho : w'.ownsRow B 91 6 v' (c.code.length + 1) (insL c.code ++ b0r i.op i.d i.n i.m i.imm i.kind)) (hk : ∀ k, v'.ownBlock = some k → cv.c.ownBlock = some k ∨ w.heap.size ≤ k) (hn : n < 20000) :
  ∃ f', AppC w f gc l.length 3 cv.c (lab 11 l.length) w' f' ∧ ST (w'.setCell ⟨gc, l.length * 5 + 3, none⟩ v') f' B g (n + 1) { x with cores := l ++ [{ c with code := c.code ++ [i] }] } { v with cvs := vl ++ [{ cv with c := v' }] } := by
 have q := h.core_own hx hvx
 have hlv := h.lenl hx hvx
 obtain ⟨f', ha, hO, hG⟩ := q.2.1.app hg ho hk
 have hgc : gc < w.heap.size := (h.coreCell hx hvx hvo 3 (by decide)).2.2
 have hgl := h.gcl hvo
 have hgl' : f' gc = lab 7 0 := by rw [ha gc hgc]; exact hgl
 have p0 := h.parts.but (f' := f') hG ha
 have hrow := p0.cores (by unfold lab; omega)
 rw [hx, hvx] at hrow
 have hl : (l ++ [c]).length = l.length + 1 := by simp
 rw [hl] at hrow
 have hc := hrow.cell hvo (j := l.length * 5 + 3) (by omega)
 rw [m0x vl l hlv] at hc
 refine ⟨f', ⟨ha, hG, hc.1, hc.2.1, hc.2.2, hgl'⟩, ?_⟩
 have hG2 : GL f (fun k => k = lab 11 l.length ∨ k = lab 7 0) w (w'.setCell ⟨gc, l.length * 5 + 3, none⟩ v') :=
  (hG.mono (fun k hk => .inl hk)).set (.inr hgl) _ _
 have hS : GL f' (fun k => k = lab 7 0) w' (w'.setCell ⟨gc, l.length * 5 + 3, none⟩ v') := (GL.refl f' _ w').set hgl' _ _
 have h31 := h.sizes.code c (by rw [hx]; simp)
 refine h.last (c' := { c with code := c.code ++ [i] }) (cv' := { cv with c := v' }) hx hvx (L := fun k => k = lab 11 l.length ∨ k = lab 7 0) (fun k hk => by rcases hk with hk | hk <;> simp [hk]) hG2 ha ?_ ⟨?_, ?_, ?_⟩ (Nat.le_succ n) (by omega) ⟨by simp; omega, by exact Nat.le_succ_of_le h31.2.1, h31.2.2⟩
 ·have k := hrow.setc hvo (j := l.length * 5 + 3) (by omega) v'
  rw [r0c vl l hlv] at k
  rw [g0l vl l hlv]
  simpa [g0v] using k
 ·have k := (q.1.gl hG (by unfold lab; omega)).relab2 q.1 ha
  exact k.gl hS (by unfold lab; omega)
 ·have k := hO.gl hS (by unfold lab; omega)
  simpa [insL] using k
 ·have k := (q.2.2.gl hG (by unfold lab; omega)).relab2 q.2.2 ha
  exact k.gl hS (by unfold lab; omega)
theorem ST.app_hand (h : ST w f B g n x v) (hx : x.cores = l ++ [c]) (hvx : v.cvs = vl ++ [cv]) {gc cap : Nat} (hvo : v.vCo = .slice (some ⟨gc, 0, none⟩) (l.length + 1) cap) {v' : Value} (i : Ins) (hg : w.grownBy w' cv.h.ownBlock) (ho : w'.ownsRow B 91 6 v' (c.hand.length + 1) (insL c.hand ++ b0r i.op i.d i.n i.m i.imm i.kind)) (hk : ∀ k, v'.ownBlock = some k → cv.h.ownBlock = some k ∨ w.heap.size ≤ k) (hn : n < 20000) :
  ∃ f', AppC w f gc l.length 4 cv.h (lab 12 l.length) w' f' ∧ ST (w'.setCell ⟨gc, l.length * 5 + 4, none⟩ v') f' B g (n + 1) { x with cores := l ++ [{ c with hand := c.hand ++ [i] }] } { v with cvs := vl ++ [{ cv with h := v' }] } := by
 have q := h.core_own hx hvx
 have hlv := h.lenl hx hvx
 obtain ⟨f', ha, hO, hG⟩ := q.2.2.app hg ho hk
 have hgc : gc < w.heap.size := (h.coreCell hx hvx hvo 4 (by decide)).2.2
 have hgl := h.gcl hvo
 have hgl' : f' gc = lab 7 0 := by rw [ha gc hgc]; exact hgl
 have p0 := h.parts.but (f' := f') hG ha
 have hrow := p0.cores (by unfold lab; omega)
 rw [hx, hvx] at hrow
 have hl : (l ++ [c]).length = l.length + 1 := by simp
 rw [hl] at hrow
 have hc := hrow.cell hvo (j := l.length * 5 + 4) (by omega)
 rw [m0x vl l hlv] at hc
 refine ⟨f', ⟨ha, hG, hc.1, hc.2.1, hc.2.2, hgl'⟩, ?_⟩
 have hG2 : GL f (fun k => k = lab 12 l.length ∨ k = lab 7 0) w (w'.setCell ⟨gc, l.length * 5 + 4, none⟩ v') :=
  (hG.mono (fun k hk => .inl hk)).set (.inr hgl) _ _
 have hS : GL f' (fun k => k = lab 7 0) w' (w'.setCell ⟨gc, l.length * 5 + 4, none⟩ v') := (GL.refl f' _ w').set hgl' _ _
 have h31 := h.sizes.code c (by rw [hx]; simp)
 refine h.last (c' := { c with hand := c.hand ++ [i] }) (cv' := { cv with h := v' }) hx hvx (L := fun k => k = lab 12 l.length ∨ k = lab 7 0) (fun k hk => by rcases hk with hk | hk <;> simp [hk]) hG2 ha ?_ ⟨?_, ?_, ?_⟩ (Nat.le_succ n) (by omega) ⟨by exact Nat.le_succ_of_le h31.1, by simp; omega, h31.2.2⟩
 ·have k := hrow.setc hvo (j := l.length * 5 + 4) (by omega) v'
  rw [r0c vl l hlv] at k
  rw [g0l vl l hlv]
  simpa [g0v] using k
 ·have k := (q.1.gl hG (by unfold lab; omega)).relab2 q.1 ha
  exact k.gl hS (by unfold lab; omega)
 ·have k := (q.2.1.gl hG (by unfold lab; omega)).relab2 q.2.1 ha
  exact k.gl hS (by unfold lab; omega)
 ·have k := hO.gl hS (by unfold lab; omega)
  simpa [insL] using k
end
structure AppP (w : World) (f : Nat → Nat) (gp m : Nat) (u : Value) (l : Nat) (w' : World) (f' : Nat → Nat) : Prop where
 agree : ∀ i, i < w.heap.size → f' i = f i
 gl : GL f (fun n => n = l) w w'
 cell : w'.cell? ⟨gp, m, none⟩ = some u
 free : w'.frozen? ⟨gp, m, none⟩ = false
 lt : gp < w'.heap.size
 lg : f' gp = lab 5 0
section
variable {w w' : World} {f f' : Nat → Nat} {B g n : Nat} {x : SrcA} {v : SrcV} {ql : List (List Int)} {q : List Int} {il : List Value} {iv : Value}
theorem ST.lenq (h : ST w f B g n x v) (hx : x.pI = ql ++ [q]) (hvx : v.ivs = il ++ [iv]) : il.length = ql.length := by
 have hlc := h.parts.leni
 rw [hx, hvx] at hlc; simpa using hlc
theorem ST.ins_own (h : ST w f B g n x v) (hx : x.pI = ql ++ [q]) (hvx : v.ivs = il ++ [iv]) : OwnL w f B (lab 13 ql.length) 3 1 iv q.length (q.map i64V) := by
 have hlv := h.lenq hx hvx
 have p := h.parts.ins ql.length (by rw [hx]; simp) (by rw [hvx]; simp [hlv])
 have e1 : v.ivs[ql.length]'(by rw [hvx]; simp [hlv]) = iv := by
  simp only [hvx]; rw [List.getElem_append_right (by omega)]; simp [hlv]
 have e2 : x.pI[ql.length]'(by rw [hx]; simp) = q := by simp only [hx]; simp
 rw [e1, e2] at p; exact p
theorem ST.lastins (h : ST w f B g n x v) (hx : x.pI = ql ++ [q]) : ∃ il iv gp cap pq capq, v.ivs = il ++ [iv] ∧ v.vPI = .slice (some ⟨gp, 0, none⟩) (ql.length + 1) cap ∧ iv = .slice pq q.length capq := by
 have hlc := h.parts.leni
 rw [hx] at hlc
 obtain ⟨il, iv, hvx, _⟩ := i0y v.ivs ql.length (by simpa using hlc)
 obtain ⟨gp, cap, hvo, _⟩ := h.parts.pI.some (by rw [hx]; simp)
 obtain ⟨pq, capq, hvq, _⟩ := a0z (h.ins_own hx hvx).1
 rw [hx] at hvo
 exact ⟨il, iv, gp, cap, pq, capq, hvx, by simpa using hvo, hvq⟩
theorem ST.insCell (h : ST w f B g n x v) (hx : x.pI = ql ++ [q]) (hvx : v.ivs = il ++ [iv]) {gp cap : Nat} (hvo : v.vPI = .slice (some ⟨gp, 0, none⟩) (ql.length + 1) cap) : w.cell? ⟨gp, ql.length, none⟩ = some iv ∧ w.frozen? ⟨gp, ql.length, none⟩ = false ∧ gp < w.heap.size := by
 have hrow := h.parts.pI
 rw [hx, hvx] at hrow
 have hl : (ql ++ [q]).length = ql.length + 1 := by simp
 rw [hl] at hrow
 have k := hrow.cell hvo (j := ql.length) (by omega)
 have e : (il ++ [iv])[ql.length]? = some iv := by rw [← h.lenq hx hvx]; simp
 rw [e] at k
 exact k
theorem ST.app_ins (h : ST w f B g n x v) (hx : x.pI = ql ++ [q]) (hvx : v.ivs = il ++ [iv]) {gp cap : Nat} (hvo : v.vPI = .slice (some ⟨gp, 0, none⟩) (ql.length + 1) cap) {v' : Value} (t : Int) (hg : w.grownBy w' iv.ownBlock) (ho : w'.ownsRow B 3 1 v' (q.length + 1) (q.map i64V ++ [i64V t])) (hk : ∀ k, v'.ownBlock = some k → iv.ownBlock = some k ∨ w.heap.size ≤ k) (hn : n < 20000) :
  ∃ f', AppP w f gp ql.length iv (lab 13 ql.length) w' f' ∧ ST (w'.setCell ⟨gp, ql.length, none⟩ v') f' B g (n + 1) { x with pI := ql ++ [q ++ [t]] } { v with ivs := il ++ [v'] } := by
 obtain ⟨f', ha, hO, hG⟩ := (h.ins_own hx hvx).app hg ho hk
 have hlv := h.lenq hx hvx
 have hrow := h.parts.pI
 have hgl : f gp = lab 5 0 := hrow.2 gp (by rw [hvo]; rfl)
 have hrow' : OwnL w' f' B (lab 5 0) 33 1 v.vPI x.pI.length v.ivs := (h.parts.but (f' := f') hG ha).pI (by unfold lab; omega)
 have hgp : gp < w.heap.size := (h.insCell hx hvx hvo).2.2
 have hgl' : f' gp = lab 5 0 := by rw [ha gp hgp]; exact hgl
 rw [hx, hvx] at hrow'
 have hl : (ql ++ [q]).length = ql.length + 1 := by simp
 rw [hl] at hrow'
 have hc := hrow'.cell hvo (j := ql.length) (by omega)
 have e : (il ++ [iv])[ql.length]? = some iv := by rw [← hlv]; simp
 rw [e] at hc
 refine ⟨f', ⟨ha, hG, hc.1, hc.2.1, hc.2.2, hgl'⟩, ?_⟩
 have hG2 : GL f (fun k => k = lab 13 ql.length ∨ k = lab 5 0) w (w'.setCell ⟨gp, ql.length, none⟩ v') :=
  (hG.mono (fun k hk => .inl hk)).set (.inr hgl) _ _
 have p := h.parts.but (f' := f') hG2 ha
 have ne : ∀ k i, 1 ≤ k → k ≤ 13 → k ≠ 5 → ¬ (k = 13 ∧ i = ql.length) → ¬ (lab k i = lab 13 ql.length ∨ lab k i = lab 5 0) := fun k i h1 h2 h3 h4 => by unfold lab; omega
 have hnew : OwnL (w'.setCell ⟨gp, ql.length, none⟩ v') f' B (lab 5 0) 33 1 v.vPI (ql.length + 1) (il ++ [v']) := by
  have k := hrow'.setc hvo (j := ql.length) (by omega) v'
  have e2 : (il ++ [iv]).set ql.length v' = il ++ [v'] := by rw [← hlv]; simp
  rw [e2] at k; exact k
 have hins : OwnL (w'.setCell ⟨gp, ql.length, none⟩ v') f' B (lab 13 ql.length) 3 1 v' (q ++ [t]).length ((q ++ [t]).map i64V) := by
  have k := hO.gl (L := fun k => k = lab 5 0) ((GL.refl f' _ w').set hgl' ql.length v') (by unfold lab; omega)
  simpa using k
 have s := h.sizes.mono (Nat.le_succ n)
 refine ⟨h.blk.gl hG2 (by rw [h.lg]; exact ne 9 0 (by decide) (by decide) (by decide) (by omega)), by rw [ha g h.lt]; exact h.lg, h.le, ⟨p.cells (ne 6 0 (by decide) (by decide) (by decide) (by omega)), p.cores (ne 7 0 (by decide) (by decide) (by decide) (by omega)), p.lenc, fun i h1 h2 => ⟨(p.core i h1 h2).1 (ne 10 i (by decide) (by decide) (by decide) (by omega)), (p.core i h1 h2).2.1 (ne 11 i (by decide) (by decide) (by decide) (by omega)), (p.core i h1 h2).2.2 (ne 12 i (by decide) (by decide) (by decide) (by omega))⟩, p.cond (ne 8 0 (by decide) (by decide) (by decide) (by omega)), p.tables (ne 1 0 (by decide) (by decide) (by decide) (by omega)), p.pT (ne 2 0 (by decide) (by decide) (by decide) (by omega)), p.pC (ne 3 0 (by decide) (by decide) (by decide) (by omega)), p.pCo (ne 4 0 (by decide) (by decide) (by decide) (by omega)), by simpa using hnew, by simp [hlv], ?_⟩, ⟨s.cells, s.cores, s.tables, s.pT, s.pC, s.pCo, ?_, ?_, s.code⟩, by omega⟩
 ·intro i h1 h2
  have hl1 : i < ql.length + 1 := by simpa using h1
  rcases Nat.lt_or_ge i ql.length with hi | hi
  ·have e1 : (ql ++ [q ++ [t]])[i] = ql[i] := List.getElem_append_left hi
   have e2 : (il ++ [v'])[i] = il[i]'(by omega) := List.getElem_append_left (by omega)
   have k := p.ins i (by rw [hx]; simp; omega) (by rw [hvx]; simp; omega) (ne 13 i (by decide) (by decide) (by decide) (by omega))
   have e3 : x.pI[i]'(by rw [hx]; simp; omega) = ql[i] := by
    simp only [hx]; exact List.getElem_append_left hi
   have e4 : v.ivs[i]'(by rw [hvx]; simp; omega) = il[i]'(by omega) := by
    simp only [hvx]; exact List.getElem_append_left (by omega)
   rw [e3, e4] at k
   show OwnL _ f' B (lab 13 i) 3 1 (il ++ [v'])[i] (ql ++ [q ++ [t]])[i].length ((ql ++ [q ++ [t]])[i].map i64V)
   rw [e1, e2]; exact k
  ·have hi2 : i = ql.length := by omega
   subst hi2
   have e1 : (ql ++ [q ++ [t]])[ql.length] = q ++ [t] := by simp
   have e2 : (il ++ [v'])[ql.length] = v' := by rw [List.getElem_append_right (by omega)]; simp [hlv]
   show OwnL _ f' B (lab 13 ql.length) 3 1 (il ++ [v'])[ql.length] (ql ++ [q ++ [t]])[ql.length].length ((ql ++ [q ++ [t]])[ql.length].map i64V)
   rw [e1, e2]; exact hins
 ·have := s.pI; rw [hx] at this; simpa using this
 ·intro r hr
  rcases List.mem_append.1 hr with hr | hr
  ·exact s.ins r (by rw [hx]; exact List.mem_append_left _ hr)
  ·have e5 : r = q ++ [t] := by simpa using hr
   subst e5
   have := h.sizes.ins q (by rw [hx]; simp)
   simp; omega
end
end
section
open Go.RowKit
def Inv (x : SrcA) (n : Nat) : Prop := Sizes x n ∧ x.pI.length = x.cores.length
theorem inv0 : Inv src0 0 := ⟨⟨by simp [src0], by simp [src0], by simp [src0], by simp [src0], by simp [src0], by simp [src0], by simp [src0], by simp [src0], by simp [src0]⟩, rfl⟩
theorem Inv.up {x : SrcA} {n : Nat} (h : Inv x n) : Inv x (n + 1) := ⟨h.1.mono (Nat.le_succ n), h.2⟩
theorem inv_of {x y : SrcA} {n : Nat} (h : Inv x n) (hc : y.cells.length ≤ n + 1) (ht : y.tables.length ≤ n + 1) (h1 : y.pT.length ≤ n + 1) (h2 : y.pC.length ≤ n + 1) (e1 : y.cores = x.cores) (e2 : y.pCo = x.pCo) (e3 : y.pI = x.pI) : Inv y (n + 1) := by
 obtain ⟨⟨a, b, c, d, e, f, g, i, k⟩, hp⟩ := h
 refine ⟨⟨hc, by rw [e1]; omega, ht, h1, h2, by rw [e2]; omega, by rw [e3]; omega, by rw [e3]; intro q hq; have := i q hq; omega, by rw [e1]; intro q hq; have := k q hq; omega⟩, by rw [e1, e3]; exact hp⟩
theorem j1p {x : SrcA} {n : Nat} (h : Inv x n) (c : CoreA) (hc : c.code.length ≤ n + 1 ∧ c.hand.length ≤ n + 1 ∧ c.regs.length = 31) (at_ : Int) (a : Nat) : Inv { x with cores := x.cores ++ [c], pCo := x.pCo ++ [at_], pI := x.pI ++ [[]], after := a } (n + 1) := by
 obtain ⟨⟨z1, z2, z3, z4, z5, z6, z7, i, k⟩, hp⟩ := h
 refine ⟨⟨by show x.cells.length ≤ _; omega, by simp; omega, by show x.tables.length ≤ _; omega, by show x.pT.length ≤ _; omega, by show x.pC.length ≤ _; omega, by simp; omega, by simp; omega, ?_, ?_⟩, by simp [hp]⟩
 ·intro q hq
  rcases List.mem_append.1 hq with hq | hq
  ·have := i q hq; omega
  ·have e : q = [] := by simpa using hq
   subst e; simp
 ·intro q hq
  rcases List.mem_append.1 hq with hq | hq
  ·have := k q hq; omega
  ·have e : q = c := by simpa using hq
   subst e; exact hc
theorem l0z {x : SrcA} {l : List CoreA} {c : CoreA} (hx : x.cores = l ++ [c]) (f : CoreA → CoreA) : k0n x f = { x with cores := l ++ [f c] } := by
 unfold k0n; simp [hx]
theorem x0v {x : SrcA} {n : Nat} (h : Inv x n) {l : List CoreA} {c c' : CoreA} (hx : x.cores = l ++ [c]) (hc : c'.code.length ≤ n + 1 ∧ c'.hand.length ≤ n + 1 ∧ c'.regs.length = 31) : Inv { x with cores := l ++ [c'] } (n + 1) := by
 obtain ⟨⟨z1, z2, z3, z4, z5, z6, z7, i, k⟩, hp⟩ := h
 rw [hx] at z2 hp k
 refine ⟨⟨by show x.cells.length ≤ _; omega, by simpa using Nat.le_succ_of_le z2, by show x.tables.length ≤ _; omega, by show x.pT.length ≤ _; omega, by show x.pC.length ≤ _; omega, by show x.pCo.length ≤ _; omega, by show x.pI.length ≤ _; omega, ?_, ?_⟩, by simpa using hp⟩
 ·intro q hq; have := i q hq; omega
 ·intro q hq
  rcases List.mem_append.1 hq with hq | hq
  ·have := k q (List.mem_append_left _ hq); omega
  ·have e : q = c' := by simpa using hq
   subst e; exact hc
theorem inv_pI {x : SrcA} {n : Nat} (h : Inv x n) (h0 : ∀ q ∈ x.pI, q.length ≤ n - 1) (hn : 0 < n) (at_ : Int) : Inv { x with pI := q0e x.pI at_ } n := by
 obtain ⟨⟨a, b, c, d, e, f, g, i, k⟩, hp⟩ := h
 have hl : (q0e x.pI at_).length = x.pI.length ∧ ∀ q ∈ q0e x.pI at_, q.length ≤ n := by
  unfold q0e
  rcases hq : x.pI.getLast? with _ | q
  ·exact ⟨rfl, i⟩
  ·obtain ⟨l, hl⟩ := List.getLast?_eq_some_iff.1 hq
   have h1 := h0 q (by rw [hl]; simp)
   simp only [hl, List.dropLast_concat]
   refine ⟨by simp, fun r hr => ?_⟩
   rcases List.mem_append.1 hr with hr | hr
   ·exact i r (by rw [hl]; exact List.mem_append_left _ hr)
   ·have e : r = q ++ [at_] := by simpa using hr
    subst e; simp; omega
 exact ⟨⟨a, b, c, d, e, f, by rw [show ({ x with pI := q0e x.pI at_ } : SrcA).pI.length = x.pI.length from hl.1]; exact g, hl.2, k⟩, by show (q0e x.pI at_).length = _; rw [hl.1]; exact hp⟩
theorem j1s {x : SrcA} {n : Nat} (h : Inv x n) (t : ByteArray) (at_ : Int) : Inv (insR x t at_).1 (n + 1) := by
 unfold insR
 rcases hc : x.cores.getLast? with _ | c
 ·exact h.up
 ·obtain ⟨l, hx⟩ := List.getLast?_eq_some_iff.1 hc
  dsimp only
  split
  ·rw [l0z hx]
   have hk := h.1.code c (by rw [hx]; simp)
   have hI : Inv { x with cores := l ++ [if x.after = 2 then { c with code := c.code ++ [(f0o t.data.toList).1] } else { c with hand := c.hand ++ [(f0o t.data.toList).1] }] } (n + 1) := by
    refine x0v h hx ?_
    split
    ·exact ⟨by simp; omega, by show c.hand.length ≤ _; omega, hk.2.2⟩
    ·exact ⟨by show c.code.length ≤ _; omega, by simp; omega, hk.2.2⟩
   exact inv_pI hI (fun q hq => by have := h.1.ins q hq; omega) (by omega) at_
  ·exact h.up
theorem i1f {x : SrcA} {n : Nat} (h : Inv x n) (tk : List Tk) (s : RS) : Inv (f0k tk x s).1 (n + 1) := by
 unfold f0k
 split
 ·dsimp only
  rcases hc : x.cores.getLast? with _ | c
  ·unfold k0n; rw [hc]; exact h.up
  ·obtain ⟨l, hx⟩ := List.getLast?_eq_some_iff.1 hc
   rw [l0z hx]
   have hk := h.1.code c (by rw [hx]; simp)
   exact x0v h hx ⟨by show c.code.length ≤ _; omega, by show c.hand.length ≤ _; omega, by simp [hk.2.2]⟩
 ·exact h.up
theorem v0f {x : SrcA} {n : Nat} (h : Inv x n) (tk : List Tk) (s : RS) (w : ByteArray) (at_ : Int) : Inv (g0y tk x s w at_).1 (n + 1) := by
 have hs := h.1
 unfold g0y
 split
 ·exact inv_of h (Nat.le_succ_of_le hs.cells) (Nat.le_succ_of_le hs.tables) (Nat.le_succ_of_le hs.pT) (Nat.le_succ_of_le hs.pC) rfl rfl rfl
 split
 ·unfold i0s; split
  ·have h1 := hs.tables; have h2 := hs.pT
   exact inv_of h (Nat.le_succ_of_le hs.cells) (by simp; omega) (by simp; omega) (Nat.le_succ_of_le hs.pC) rfl rfl rfl
  ·exact h.up
 split
 ·unfold n0b; split
  ·have h1 := hs.cells; have h2 := hs.pC
   exact inv_of h (by simp; omega) (Nat.le_succ_of_le hs.tables) (Nat.le_succ_of_le hs.pT) (by simp; omega) rfl rfl rfl
  ·exact h.up
 split
 ·exact j1p h _ ⟨Nat.zero_le _, Nat.zero_le _, by simp⟩ at_ 2
 split
 ·exact i1f h tk s
 split
 ·exact inv_of h (Nat.le_succ_of_le hs.cells) (Nat.le_succ_of_le hs.tables) (Nat.le_succ_of_le hs.pT) (Nat.le_succ_of_le hs.pC) rfl rfl rfl
 ·exact inv_of h (Nat.le_succ_of_le hs.cells) (Nat.le_succ_of_le hs.tables) (Nat.le_succ_of_le hs.pT) (Nat.le_succ_of_le hs.pC) rfl rfl rfl
theorem x0j {x : SrcA} {n : Nat} (h : Inv x n) (t : ByteArray) (at_ : Nat) : Inv (rowA x t at_).1 (n + 1) := by
 unfold rowA
 dsimp only
 split
 ·exact h.up
 split
 ·exact j1s h t at_
 split
 ·exact h.up
 ·exact v0f h _ _ _ _
theorem ST.resize {w : World} {f : Nat → Nat} {B g n m : Nat} {x : SrcA} {v : SrcV} (h : ST w f B g n x v) (hs : Sizes x m) (hm : m ≤ 20000) : ST w f B g m x v := ⟨h.blk, h.lg, h.le, h.parts, hs, hm⟩
end
section
open Go.RowKit
def nt (t : Tk) : Tk := (t.1, t.2.1, 0)
def nk (l : List Tk) : List Tk := l.map nt
def np (s : RS) : RS := { s with at_ := 0 }
section
variable (tk : List Tk) (s : RS)
theorem nk_len : (nk tk).length = tk.length := by simp [nk]
theorem pk_n : a0p (nk tk) (np s) = nt (a0p tk s) := by
 unfold a0p nk np
 rw [List.getD_eq_getElem?_getD, List.getD_eq_getElem?_getD, List.getElem?_map]
 cases tk[s.k]? <;> rfl
theorem f0l : a0v (nk tk) (np s) = np (a0v tk s) := by
 unfold a0v; rw [pk_n]
 show (if (a0p tk s).1 = 4 then np s else onR (np s)) = _
 split <;> rfl
theorem r0w (k : Int) (t : ByteArray) : isR (nk tk) (np s) k t = isR tk s k t := by unfold isR; rw [pk_n]; rfl
theorem j0m (e : Int) : e0e (nk tk) (np s) e = np (e0e tk s e) := by
 unfold e0e; rw [pk_n]
 show (if s.code = 0 then _ else _) = _
 split <;> rfl
theorem l0j (k : Int) (t : ByteArray) : d0z (nk tk) (np s) k t = np (d0z tk s k t) := by
 unfold d0z; rw [r0w]; split
 ·exact f0l tk s
 ·exact j0m tk s 110
theorem l1q : endR (nk tk) (np s) = np (endR tk s) := by
 unfold endR; rw [pk_n]
 show (if (a0p tk s).1 = 4 then _ else _) = _
 split
 ·rfl
 ·exact j0m tk s 110
theorem f0h : a0c (nk tk) (np s) = ((a0c tk s).1, np (a0c tk s).2) := by
 unfold a0c; rw [pk_n]
 show (if (a0p tk s).1 = 2 ∧ (numT (a0p tk s).2.1).2 = 0 then _ else _) = _
 split
 ·rw [f0l]; rfl
 ·rw [j0m]
theorem n0z (n : Nat) : b0d (nk tk) (np s) n = ((b0d tk s n).1, np (b0d tk s n).2) := by
 unfold b0d; rw [pk_n]
 show (if (a0p tk s).1 = 2 ∧ (numT (a0p tk s).2.1).2 = 0 ∧ n ≤ (numT (a0p tk s).2.1).1 then _ else _) = _
 split
 ·rw [j0m]
 ·exact f0h tk s
theorem v0u (m : Nat) : c0z (nk tk) (np s) m = np (c0z tk s m) := by
 unfold c0z; split
 ·exact j0m tk s 120
 ·rfl
theorem r0v : d0v (nk tk) (np s) = ((d0v tk s).1, np (d0v tk s).2) := by
 unfold d0v; rw [l0j, f0h]
theorem np_reg : regR (nk tk) (np s) = np (regR tk s) := by
 unfold regR; rw [pk_n]
 show (if regN (a0p tk s).2.1 = none ∨ regN (a0p tk s).2.1 = some 31 ∨ ¬ (a0p tk s).1 = 1 then _ else _) = _
 split
 ·exact j0m tk s 110
 ·rfl
theorem n1f : h0u (nk tk) (np s) = ((h0u tk s).1, np (h0u tk s).2) := by
 unfold h0u
 rw [r0w, r0w, r0w]
 split
 ·dsimp only; rw [f0l, f0h]; dsimp only; rw [l0j, r0v]
 split
 ·rw [f0l]
 split
 ·dsimp only; rw [f0l, n0z]; dsimp only; rw [r0v]
 ·dsimp only; rw [n0z]; dsimp only; rw [l0j, np_reg, f0l, r0v, pk_n]; rfl
theorem j1c : okR (np s) = okR s := rfl
end
theorem f0u (tk : List Tk) : ∀ (f : Nat) (F : PF) (s : RS) (m : Nat), a0e (nk tk) f F (np s) m = ((a0e tk f F s m).1, np (a0e tk f F s m).2.1, (a0e tk f F s m).2.2)
 | 0, _, s, m => by unfold a0e; rfl
 | f + 1, .either, s, m => by simp only [a0e]; rw [f0u tk f]; dsimp only; rw [f0u tk f]
 | f + 1, .both, s, m => by simp only [a0e]; rw [f0u tk f]; dsimp only; rw [f0u tk f]
 | f + 1, .eitherL c, s, m => by
  simp only [a0e]; rw [r0w, j1c]; split
  ·rw [f0l, v0u, f0u tk f]; dsimp only; rw [f0u tk f]
  ·rfl
 | f + 1, .bothL c, s, m => by
  simp only [a0e]; rw [r0w, j1c]; split
  ·rw [f0l, v0u, f0u tk f]; dsimp only; rw [f0u tk f]
  ·rfl
 | f + 1, .one, s, m => by
  simp only [a0e]; rw [r0w, j1c]; split
  ·rw [f0l, f0u tk f]; dsimp only; rw [l0j]
  ·rw [v0u, j1c]; split
   ·rw [r0w]; split
    ·rw [f0l, f0u tk f]
    ·rw [n1f]
   ·rfl
section
variable (tk : List Tk) (s : RS)
theorem e1p : h0d (nk tk) (np s) = ((h0d tk s).1, np (h0d tk s).2) := by
 unfold h0d; rw [nk_len, f0u]; dsimp only; rw [l1q]
theorem x0p (c a b : Int) : np (e0b (np s) c a) = np (e0b s c b) := by
 unfold e0b
 show np (if s.code = 0 then _ else _) = _
 split <;> rfl
theorem e1o (t : ByteArray) : wIsR (nk tk) (np s) t = ((wIsR tk s t).1, np (wIsR tk s t).2) := by
 unfold wIsR; rw [r0w]; dsimp only; split
 ·rw [f0l]
 ·rfl
theorem x0o : c0n (nk tk) (np s) = ((c0n tk s).1, np (c0n tk s).2) := by
 unfold c0n; dsimp only; simp only [e1o]
theorem e1r (x : Nat × Nat) : encR (nk tk) (np s) x = ((encR tk s x).1, np (encR tk s x).2) := by
 unfold encR; dsimp only; split
 ·rfl
 ·rw [j0m]
theorem e1q : litV (nk tk) (np s) = ((litV tk s).1, np (litV tk s).2) := by
 unfold litV; dsimp only; simp only [e1o]
 split
 ·rw [f0h]; dsimp only; rw [e1r]
 split
 ·rw [f0h]; dsimp only; rw [x0o]; dsimp only; rw [e1r]
 split
 ·rw [f0h]; dsimp only; rw [x0o]; dsimp only; rw [e1r]
 ·rw [f0h]
end
def nx (x : SrcA) : SrcA := { x with pT := [], pC := [], pCo := [], pI := [], pCond := 0 }
section
variable {x y : SrcA}
theorem l0h (h : nx x = nx y) : x.name = y.name := (congrArg SrcA.name h : (nx x).name = (nx y).name)
theorem i0h (h : nx x = nx y) : x.cells = y.cells := (congrArg SrcA.cells h : (nx x).cells = (nx y).cells)
theorem g0o (h : nx x = nx y) : x.cores = y.cores := (congrArg SrcA.cores h : (nx x).cores = (nx y).cores)
theorem v0t (h : nx x = nx y) : x.fa = y.fa := (congrArg SrcA.fa h : (nx x).fa = (nx y).fa)
theorem l0i (h : nx x = nx y) : x.cond = y.cond := (congrArg SrcA.cond h : (nx x).cond = (nx y).cond)
theorem g0t (h : nx x = nx y) : x.tables = y.tables := (congrArg SrcA.tables h : (nx x).tables = (nx y).tables)
theorem g0p (h : nx x = nx y) : x.after = y.after := (congrArg SrcA.after h : (nx x).after = (nx y).after)
theorem t0t (h1 : x.name = y.name) (h2 : x.cells = y.cells) (h3 : x.cores = y.cores) (h4 : x.fa = y.fa) (h5 : x.cond = y.cond) (h6 : x.tables = y.tables) (h7 : x.after = y.after) : nx x = nx y := by
 unfold nx; rw [h1, h2, h3, h4, h5, h6, h7]
end
def Alk (a b : SrcA × RS) : Prop := nx a.1 = nx b.1 ∧ np a.2 = np b.2
section
variable {x y : SrcA} {tk tl : List Tk} {s t : RS}
theorem ev {α : Type} (F : List Tk → RS → α × RS) (hF : ∀ tk s, F (nk tk) (np s) = ((F tk s).1, np (F tk s).2)) (hk : nk tk = nk tl) (hs : np s = np t) : (F tk s).1 = (F tl t).1 ∧ np (F tk s).2 = np (F tl t).2 := by
 have h := hF tk s
 rw [hk, hs, hF tl t] at h
 exact ⟨(congrArg Prod.fst h).symm, (congrArg Prod.snd h).symm⟩
theorem ev1 (F : List Tk → RS → RS) (hF : ∀ tk s, F (nk tk) (np s) = np (F tk s)) (hk : nk tk = nk tl) (hs : np s = np t) : np (F tk s) = np (F tl t) := by
 have h := hF tk s
 rw [hk, hs, hF tl t] at h
 exact h.symm
theorem pk_ev (hk : nk tk = nk tl) (hs : np s = np t) : (a0p tk s).1 = (a0p tl t).1 ∧ (a0p tk s).2.1 = (a0p tl t).2.1 := by
 have h := pk_n tk s
 rw [hk, hs, pk_n tl t] at h
 exact ⟨(congrArg Prod.fst h).symm, (congrArg (fun z => z.2.1) h).symm⟩
theorem o1g (hs : np s = np t) : s.code = t.code := (congrArg RS.code hs : (np s).code = (np t).code)
theorem o0e (c a b : Int) (hs : np s = np t) : np (e0b s c a) = np (e0b t c b) := by
 rw [← x0p s c 0 a, hs, x0p t c 0 b]
theorem m1f (h : nx x = nx y) (hk : nk tk = nk tl) (hs : np s = np t) : Alk (r0p tk x s) (r0p tl y t) := by
 have p := pk_ev hk hs
 unfold r0p
 rw [← p.1]
 refine ⟨t0t p.2 (i0h h :) (g0o h :) (v0t h :) (l0i h :) (g0t h :) rfl, ?_⟩
 dsimp only
 split
 ·exact ev1 a0v f0l hk hs
 ·exact ev1 a0v f0l hk (ev1 (fun tk s => e0e tk s 110) (fun tk s => j0m tk s 110) hk hs)
theorem g1u (h : nx x = nx y) (hk : nk tk = nk tl) (hs : np s = np t) (a b : Int) : Alk (i0s tk x s a) (i0s tl y t b) := by
 have p := ev a0c f0h hk hs
 unfold i0s
 rw [g0p h]
 split
 ·exact ⟨t0t (l0h h :) (i0h h :) (g0o h :) (v0t h :) (l0i h :) (by show x.tables ++ _ = y.tables ++ _; rw [g0t h, p.1]) (by first | rfl | exact (g0p h :)), p.2⟩
 ·exact ⟨h, o0e 110 a b hs⟩
theorem o1h (h : nx x = nx y) (hk : nk tk = nk tl) (hs : np s = np t) (a b : Int) : Alk (n0b tk x s a) (n0b tl y t b) := by
 have p := ev a0c f0h hk hs
 have q := ev litV e1q hk (ev1 (fun tk s => d0z tk s 3 ⟨#[61]⟩) (fun tk s => l0j tk s 3 _) hk p.2)
 unfold n0b
 rw [g0p h]
 split
 ·exact ⟨t0t (l0h h :) (by show x.cells ++ _ = y.cells ++ _; rw [i0h h, p.1, q.1]) (g0o h :) (v0t h :) (l0i h :) (g0t h :) (by first | rfl | exact (g0p h :)), q.2⟩
 ·exact ⟨h, o0e 110 a b hs⟩
theorem o1d (h : nx x = nx y) (hk : nk tk = nk tl) (hs : np s = np t) (a b : Int) : Alk (n0s tk x s a) (n0s tl y t b) := by
 have p := ev (fun tk s => b0d tk s 65536) (fun tk s => n0z tk s _) hk hs
 try dsimp only at p
 unfold n0s
 dsimp only
 rw [← g0o h, ← p.1]
 have p1 : np (if (b0d tk s 65536).1 = x.cores.length then (b0d tk s 65536).2 else e0b (b0d tk s 65536).2 110 a) = np (if (b0d tk s 65536).1 = x.cores.length then (b0d tl t 65536).2 else e0b (b0d tl t 65536).2 110 b) := by
  split
  ·exact p.2
  ·exact o0e 110 a b p.2
 generalize (if (b0d tk s 65536).1 = x.cores.length then (b0d tk s 65536).2 else e0b (b0d tk s 65536).2 110 a) = s1 at *
 generalize (if (b0d tk s 65536).1 = x.cores.length then (b0d tl t 65536).2 else e0b (b0d tl t 65536).2 110 b) = t1 at *
 have p2 := ev (fun tk s => wIsR tk s ⟨#[115, 112, 97, 99, 101]⟩) (fun tk s => e1o tk s _) hk p1
 try dsimp only at p2
 rw [← p2.1]
 have p3 : (if (wIsR tk s1 ⟨#[115, 112, 97, 99, 101]⟩).1 = true then b0d tk (wIsR tk s1 ⟨#[115, 112, 97, 99, 101]⟩).2 65536 else (0, (wIsR tk s1 ⟨#[115, 112, 97, 99, 101]⟩).2)).1 = (if (wIsR tk s1 ⟨#[115, 112, 97, 99, 101]⟩).1 = true then b0d tl (wIsR tl t1 ⟨#[115, 112, 97, 99, 101]⟩).2 65536 else (0, (wIsR tl t1 ⟨#[115, 112, 97, 99, 101]⟩).2)).1 ∧ np (if (wIsR tk s1 ⟨#[115, 112, 97, 99, 101]⟩).1 = true then b0d tk (wIsR tk s1 ⟨#[115, 112, 97, 99, 101]⟩).2 65536 else (0, (wIsR tk s1 ⟨#[115, 112, 97, 99, 101]⟩).2)).2 = np (if (wIsR tk s1 ⟨#[115, 112, 97, 99, 101]⟩).1 = true then b0d tl (wIsR tl t1 ⟨#[115, 112, 97, 99, 101]⟩).2 65536 else (0, (wIsR tl t1 ⟨#[115, 112, 97, 99, 101]⟩).2)).2 := by
  split
  ·exact ev (fun tk s => b0d tk s 65536) (fun tk s => n0z tk s _) hk p2.2
  ·exact ⟨rfl, p2.2⟩
 generalize (if (wIsR tk s1 ⟨#[115, 112, 97, 99, 101]⟩).1 = true then b0d tk (wIsR tk s1 ⟨#[115, 112, 97, 99, 101]⟩).2 65536 else (0, (wIsR tk s1 ⟨#[115, 112, 97, 99, 101]⟩).2)) = c at *
 generalize (if (wIsR tk s1 ⟨#[115, 112, 97, 99, 101]⟩).1 = true then b0d tl (wIsR tl t1 ⟨#[115, 112, 97, 99, 101]⟩).2 65536 else (0, (wIsR tl t1 ⟨#[115, 112, 97, 99, 101]⟩).2)) = d at *
 have p4 := ev a0c f0h hk (ev1 (fun tk s => d0z tk s 1 h0a) (fun tk s => l0j tk s 1 _) hk p3.2)
 try dsimp only at p4
 exact ⟨t0t (l0h h :) (i0h h :) (by show x.cores ++ _ = x.cores ++ _; rw [p3.1, p4.1]) (v0t h :) (l0i h :) (g0t h :) rfl, p4.2⟩
theorem x0u (h : nx x = nx y) (f : CoreA → CoreA) : nx (k0n x f) = nx (k0n y f) := by
 unfold k0n
 rw [g0o h]
 split
 ·exact h
 ·exact t0t (l0h h :) (i0h h :) rfl (v0t h :) (l0i h :) (g0t h :) (g0p h :)
theorem reg_ev (h : nx x = nx y) (hk : nk tk = nk tl) (hs : np s = np t) : Alk (f0k tk x s) (f0k tl y t) := by
 have p := pk_ev hk hs
 have q := ev litV e1q hk (ev1 (fun tk s => d0z tk s 3 ⟨#[61]⟩) (fun tk s => l0j tk s 3 _) hk (ev1 a0v f0l hk hs))
 try dsimp only at q
 have e : m0o tk x s = m0o tl y t := by unfold m0o; rw [p.1, p.2, g0o h, g0p h]
 unfold f0k
 rw [e]
 split
 ·dsimp only
  rw [p.2, q.1]
  exact ⟨x0u h _, q.2⟩
 ·exact ⟨h, ev1 (fun tk s => e0e tk s 110) (fun tk s => j0m tk s 110) hk hs⟩
theorem n1s (h : nx x = nx y) (hs : np s = np t) (a b : Int) : Alk (t0w x s a) (t0w y t b) := by
 unfold t0w
 rw [g0p h]
 refine ⟨t0t (l0h h :) (i0h h :) (g0o h :) (v0t h :) (l0i h :) (g0t h :) rfl, ?_⟩
 dsimp only
 split
 ·exact hs
 ·exact o0e 110 a b hs
theorem o1f (h : nx x = nx y) (hk : nk tk = nk tl) (hs : np s = np t) (fa : Bool) (a b : Int) : Alk (a1x tk x s fa a) (a1x tl y t fa b) := by
 have p := ev h0d e1p hk hs
 unfold a1x
 exact ⟨t0t (l0h h :) (i0h h :) (g0o h :) rfl p.1 (g0t h :) rfl, p.2⟩
theorem c1k (h : nx x = nx y) (hk : nk tk = nk tl) (hs : np s = np t) (w : ByteArray) (a b : Int) : Alk (g0y tk x s w a) (g0y tl y t w b) := by
 unfold g0y
 split
 ·exact m1f h hk hs
 split
 ·exact g1u h hk hs a b
 split
 ·exact o1h h hk hs a b
 split
 ·exact o1d h hk hs a b
 split
 ·exact reg_ev h hk hs
 split
 ·exact n1s h hs a b
 ·exact o1f h hk hs _ a b
theorem ins_ev (h : nx x = nx y) (r : ByteArray) (a b : Int) : nx (insR x r a).1 = nx (insR y r b).1 ∧ (insR x r a).2.1 = (insR y r b).2.1 := by
 unfold insR
 rw [g0o h]
 split
 ·exact ⟨h, rfl⟩
 ·dsimp only
  rw [g0p h]
  split
  ·have k := x0u h (fun c => if y.after = 2 then { c with code := c.code ++ [(f0o r.data.toList).1] } else { c with hand := c.hand ++ [(f0o r.data.toList).1] })
   exact ⟨t0t (l0h k :) (i0h k :) (g0o k :) (v0t k :) (l0i k :) (g0t k :) (g0p k :), rfl⟩
  ·exact ⟨h, rfl⟩
end
theorem tkOf_n (r : ByteArray) (a b : Nat) (l : List (Nat × Nat × Nat)) : nk (tkOf r a l) = nk (tkOf r b l) := by
 unfold nk tkOf; rw [List.map_map, List.map_map]; rfl
theorem row_ev {x y : SrcA} (h : nx x = nx y) (r : ByteArray) (a b : Nat) : nx (rowA x r a).1 = nx (rowA y r b).1 ∧ (rowA x r a).2.1 = (rowA y r b).2.1 := by
 unfold rowA
 rw [g0p h]
 dsimp only
 split
 ·exact ⟨h, rfl⟩
 split
 ·exact ins_ev h r a b
 split
 ·exact ⟨h, rfl⟩
 ·have hk := tkOf_n r a b (b0j r 0 []).1
  have k := c1k h hk (ev1 a0v f0l hk (rfl : np ⟨0, 0, 0⟩ = np ⟨0, 0, 0⟩)) (r.extract 0 (c0t r 0)) (a : Int) (b : Int)
  exact ⟨k.1, o1g (ev1 endR l1q hk k.2)⟩
end
section
open Go.RowKit
theorem c1w : ∀ (n : Nat) (s : ByteArray) (f : Nat) (acc : List (Nat × Nat)), s.size + 1 - f = n → (h0j s f acc).length ≤ acc.length + (s.size + 1 - f) := by
 intro n
 induction n using Nat.strongRecOn with
 | _ n ih =>
  intro s f acc hn
  by_cases h : f ≤ s.size
  ·rw [k0u h]
   have hg := (j0j (nlB s) s.size _ f rfl).1
   have := ih (s.size + 1 - (scan (nlB s) s.size f + 1)) (by omega) s (scan (nlB s) s.size f + 1) (if c0j s f (scan (nlB s) s.size f) < c0q s f (scan (nlB s) s.size f) then acc ++ [(c0j s f (scan (nlB s) s.size f), c0q s f (scan (nlB s) s.size f))] else acc) rfl
   split at this
   ·rename_i h0; rw [if_pos h0]; simp at this; omega
   ·rename_i h0; rw [if_neg h0]; omega
  ·rw [k0f h]; omega
def o1t (s : ByteArray) (l : List (Nat × Nat)) (f : Nat) : Prop := l.Pairwise (fun x y => x.2 ≤ y.1) ∧ ∀ x ∈ l, x.1 < x.2 ∧ x.2 ≤ s.size ∧ x.2 ≤ f
theorem rows_z : ∀ (n : Nat) (s : ByteArray) (f : Nat) (acc : List (Nat × Nat)), s.size + 1 - f = n → o1t s acc f → o1t s (h0j s f acc) (s.size + 1 + f) := by
 intro n
 induction n using Nat.strongRecOn with
 | _ n ih =>
  intro s f acc hn hok
  by_cases h : f ≤ s.size
  ·rw [k0u h]
   have hg := (j0j (nlB s) s.size _ f rfl).1
   have hg2 := (j0j (nlB s) s.size _ f rfl).2 h
   have h1 := s0c s f _ hg
   have h2 := n0w s f _ hg
   generalize scan (nlB s) s.size f = k at *
   suffices hh : o1t s (if c0j s f k < c0q s f k then acc ++ [(c0j s f k, c0q s f k)] else acc) (k + 1) by
    have := ih (s.size + 1 - (k + 1)) (by omega) s (k + 1) _ rfl hh
    exact ⟨this.1, fun x hx => ⟨(this.2 x hx).1, (this.2 x hx).2.1, by have := (this.2 x hx).2.1; omega⟩⟩
   ·split
    ·rename_i hlt
     refine ⟨List.pairwise_append.2 ⟨hok.1, List.pairwise_singleton _ _, fun x hx y hy => ?_⟩, fun x hx => ?_⟩
     ·rw [List.mem_singleton] at hy; subst hy
      have := (hok.2 x hx).2.2; omega
     ·rcases List.mem_append.1 hx with hx | hx
      ·have := hok.2 x hx; omega
      ·rw [List.mem_singleton] at hx; subst hx; omega
    ·exact ⟨hok.1, fun x hx => by have := hok.2 x hx; omega⟩
  ·rw [k0f h]
   exact ⟨hok.1, fun x hx => by have := hok.2 x hx; omega⟩
theorem m1i (s : ByteArray) : ∀ r ∈ h0j s 0 [], r.1 < r.2 ∧ r.2 ≤ s.size := fun r hr => by
 have h := (rows_z _ s 0 [] rfl ⟨List.Pairwise.nil, fun _ h => absurd h (by simp)⟩).2 r hr
 exact ⟨h.1, h.2.1⟩
theorem x0h (s : ByteArray) : ∀ (l : List (Nat × Nat)) (k : Nat) (h : k < l.length), (f0t s l)[k * 2]? = some (.string (s.extract l[k].1 l[k].2)) ∧ (f0t s l)[k * 2 + 1]? = some (.int .i64 (l[k].1 : Nat))
 | r :: l, 0, _ => ⟨rfl, rfl⟩
 | r :: l, k + 1, h => by
  have q := x0h s l k (by simpa using h)
  have e : f0t s (r :: l) = [.string (s.extract r.1 r.2), .int .i64 (r.1 : Nat)] ++ f0t s l := rfl
  rw [e, show (k + 1) * 2 = k * 2 + 2 by omega, show k * 2 + 2 + 1 = (k * 2 + 1) + 2 by omega]
  exact q
end
end Go.Proofs.YtmnojnopejhebaaGreat
