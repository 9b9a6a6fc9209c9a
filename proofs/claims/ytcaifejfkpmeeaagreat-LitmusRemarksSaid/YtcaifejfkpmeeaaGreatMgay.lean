/- The core that was begun last: its cells, its rows, and how they grow. -/
import Derived.Test.YtcaifejfkpmeeaaGreatMgax
namespace Go.Proofs.YtcaifejfkpmeeaaGreat
open Go.RowKit
set_option linter.unusedVariables false
set_option linter.unusedSimpArgs false

theorem OwnL.cell {w : World} {f : Nat → Nat} {B l : Nat} {e : TypeId} {size : Nat} {v : Value} {n : Nat} {xs : List Value} (h : OwnL w f B l e size v n xs) {g cap j : Nat} (hv : v = .slice (some ⟨g, 0, none⟩) n cap) (hj : j < n * size) : w.cell? ⟨g, j, none⟩ = xs[j]? ∧ w.frozen? ⟨g, j, none⟩ = false ∧ g < w.heap.size := by
  obtain ⟨⟨h1, h2⟩, h3⟩ := h
  rcases h2 with ⟨h2, _⟩ | ⟨g', cap', cur, hv', hb, hgg, k1, k2, k3, k4⟩
  · rw [hv] at h2; cases h2
  · rw [hv] at hv'
    injection hv' with e1 e2 e3
    injection e1 with e1; injection e1 with e1 _ _
    subst e1
    refine ⟨?_, frozen_of_row w g j _ _ hgg, (Array.getElem?_eq_some_iff.1 hgg).1⟩
    rw [cell_of_row _ _ _ _ _ _ hgg, ← k4, List.getElem?_take_of_lt hj]; simp
/-- A row that holds something lies in a block. -/
theorem OwnL.some {w : World} {f : Nat → Nat} {B l : Nat} {e : TypeId} {size : Nat} {v : Value} {n : Nat} {xs : List Value} (h : OwnL w f B l e size v n xs) (hn : 0 < n) : ∃ g cap, v = .slice (some ⟨g, 0, none⟩) n cap ∧ f g = l := by
  obtain ⟨⟨h1, h2⟩, h3⟩ := h
  rcases h2 with ⟨h2, h4⟩ | ⟨g', cap', cur, hv', hb, hgg, k1, k2, k3, k4⟩
  · omega
  · exact ⟨g', cap', hv', h3 g' (by rw [hv']; rfl)⟩
theorem coresC_len : ∀ (vl : List CoreV) (l : List CoreA), vl.length = l.length → (coresC vl l).length = l.length * 5
  | [], [], _ => rfl
  | [], _ :: _, h => by simp at h
  | _ :: _, [], h => by simp at h
  | a :: vl, b :: l, h => by simp only [coresC, List.length_append, List.length_cons]; rw [coresC_len vl l (by simpa using h)]; simp [coreC]; omega
theorem coresC_app2 (vl : List CoreV) (l : List CoreA) (h : vl.length = l.length) (cv : CoreV) (c : CoreA) : coresC (vl ++ [cv]) (l ++ [c]) = coresC vl l ++ coreC cv c := coresC_app vl l h cv c
theorem coresC_get (vl : List CoreV) (l : List CoreA) (h : vl.length = l.length) (cv : CoreV) (c : CoreA) (k : Nat) : (coresC (vl ++ [cv]) (l ++ [c]))[l.length * 5 + k]? = (coreC cv c)[k]? := by
  rw [coresC_app2 vl l h, List.getElem?_append_right (by rw [coresC_len vl l h]; omega), coresC_len vl l h]; congr 1; omega
theorem coresC_set (vl : List CoreV) (l : List CoreA) (h : vl.length = l.length) (cv : CoreV) (c : CoreA) (k : Nat) (u : Value) : (coresC (vl ++ [cv]) (l ++ [c])).set (l.length * 5 + k) u = coresC vl l ++ (coreC cv c).set k u := by
  rw [coresC_app2 vl l h, List.set_append_right _ _ (by rw [coresC_len vl l h]; omega), coresC_len vl l h]; congr 2; omega
theorem last_split {α : Type} : ∀ (l : List α) (n : Nat), l.length = n + 1 → ∃ a b, l = a ++ [b] ∧ a.length = n := fun l n h => by
  have hne : l ≠ [] := by intro e; rw [e] at h; simp at h
  exact ⟨l.dropLast, l.getLast hne, (List.dropLast_concat_getLast hne).symm, by simp [h]⟩
section
variable {w w' : World} {f f' : Nat → Nat} {B g n : Nat} {x : SrcA} {v : SrcV} {l : List CoreA} {c : CoreA} {vl : List CoreV} {cv : CoreV}
theorem ST.lenl (h : ST w f B g n x v) (hx : x.cores = l ++ [c]) (hvx : v.cvs = vl ++ [cv]) : vl.length = l.length := by
  have hlc := h.parts.lenc
  rw [hx, hvx] at hlc; simpa using hlc
theorem ST.core_own (h : ST w f B g n x v) (hx : x.cores = l ++ [c]) (hvx : v.cvs = vl ++ [cv]) : CoreOwn w f B l.length cv c := by
  have hlv := h.lenl hx hvx
  have q := h.parts.core l.length (by rw [hx]; simp) (by rw [hvx]; simp [hlv])
  have e1 : v.cvs[l.length]'(by rw [hvx]; simp [hlv]) = cv := by
    simp only [hvx]; rw [List.getElem_append_right (by omega)]; simp [hlv]
  have e2 : x.cores[l.length]'(by rw [hx]; simp) = c := by simp only [hx]; simp
  rw [e1, e2] at q; exact q
/-- Where the last core and its rows lie. -/
theorem ST.lastcore (h : ST w f B g n x v) (hx : x.cores = l ++ [c]) : ∃ vl cv gc cap gr capr pc capc ph caph, v.cvs = vl ++ [cv] ∧ v.vCo = .slice (some ⟨gc, 0, none⟩) (l.length + 1) cap ∧ cv.r = .slice (some ⟨gr, 0, none⟩) 31 capr ∧ cv.c = .slice pc c.code.length capc ∧ cv.h = .slice ph c.hand.length caph := by
  have hlc := h.parts.lenc
  rw [hx] at hlc
  obtain ⟨vl, cv, hvx, _⟩ := last_split v.cvs l.length (by simpa using hlc)
  have q := h.core_own hx hvx
  obtain ⟨gc, cap, hvo, _⟩ := h.parts.cores.some (by rw [hx]; simp)
  have h31 := (h.sizes.code c (by rw [hx]; simp)).2.2
  obtain ⟨gr, capr, hvr, _⟩ := q.1.some (by rw [h31]; decide)
  obtain ⟨pc, capc, hvc, _⟩ := own_form q.2.1.1
  obtain ⟨ph, caph, hvh, _⟩ := own_form q.2.2.1
  rw [h31] at hvr
  rw [hx] at hvo
  exact ⟨vl, cv, gc, cap, gr, capr, pc, capc, ph, caph, hvx, by simpa using hvo, hvr, hvc, hvh⟩
/-- A cell of the last core. -/
theorem ST.coreCell (h : ST w f B g n x v) (hx : x.cores = l ++ [c]) (hvx : v.cvs = vl ++ [cv]) {gc cap : Nat} (hvo : v.vCo = .slice (some ⟨gc, 0, none⟩) (l.length + 1) cap) (k : Nat) (hk : k < 5) : w.cell? ⟨gc, l.length * 5 + k, none⟩ = (coreC cv c)[k]? ∧ w.frozen? ⟨gc, l.length * 5 + k, none⟩ = false ∧ gc < w.heap.size := by
  have hrow := h.parts.cores
  rw [hx, hvx] at hrow
  have hl : (l ++ [c]).length = l.length + 1 := by simp
  rw [hl] at hrow
  have q := hrow.cell hvo (j := l.length * 5 + k) (by omega)
  rw [coresC_get vl l (h.lenl hx hvx)] at q
  exact q
theorem ST.gcl (h : ST w f B g n x v) {gc k cap : Nat} (hvo : v.vCo = .slice (some ⟨gc, 0, none⟩) k cap) : f gc = lab 7 0 := h.parts.cores.2 gc (by rw [hvo]; rfl)
/-- A register of the last core is set. -/
theorem ST.setreg (h : ST w f B g n x v) (hx : x.cores = l ++ [c]) (hvx : v.cvs = vl ++ [cv]) {gr capr : Nat} (hvr : cv.r = .slice (some ⟨gr, 0, none⟩) 31 capr) {j : Nat} (hj : j < 31) (u : Nat) :
    ST (w.setCell ⟨gr, j, none⟩ (.int .u64 (u : Nat))) f B g n { x with cores := l ++ [{ c with regs := c.regs.set j u }] } { v with cvs := vl ++ [cv] } ∧ f gr = lab 10 l.length := by
  have q := h.core_own hx hvx
  have hlr : f gr = lab 10 l.length := q.1.2 gr (by rw [hvr]; rfl)
  have h31 := (h.sizes.code c (by rw [hx]; simp))
  have hG : GL f (fun k => k = lab 10 l.length) w (w.setCell ⟨gr, j, none⟩ (.int .u64 (u : Nat))) := (GL.refl f _ w).set hlr j _
  have hrow := h.parts.cores
  rw [hx, hvx] at hrow
  have e : coresC (vl ++ [cv]) (l ++ [{ c with regs := c.regs.set j u }]) = coresC (vl ++ [cv]) (l ++ [c]) := by
    rw [coresC_app2 vl l (h.lenl hx hvx), coresC_app2 vl l (h.lenl hx hvx)]; rfl
  refine ⟨h.last (c' := { c with regs := c.regs.set j u }) hx hvx (L := fun k => k = lab 10 l.length) (fun k hk => .inl hk) hG (fun _ _ => rfl) ?_ ⟨?_, ?_, ?_⟩ (Nat.le_refl _) h.small ⟨h31.1, h31.2.1, by simp [h31.2.2]⟩, hlr⟩
  · rw [e]
    have hl : (l ++ [{ c with regs := c.regs.set j u }]).length = (l ++ [c]).length := by simp
    rw [hl]
    exact hrow.gl hG (by unfold lab; omega)
  · have q1 := q.1.setc (by rw [h31.2.2]; exact hvr) (j := j) (by rw [h31.2.2]; omega) (.int .u64 (u : Nat))
    have e2 : ({ c with regs := c.regs.set j u } : CoreA).regs.length = c.regs.length := by simp
    rw [e2]
    have e3 : ({ c with regs := c.regs.set j u } : CoreA).regs.map u64V = (c.regs.map u64V).set j (.int .u64 (u : Nat)) := by
      show (c.regs.set j u).map u64V = _
      rw [List.map_set]; rfl
    rw [e3]; exact q1
  · exact q.2.1.gl hG (by unfold lab; omega)
  · exact q.2.2.gl hG (by unfold lab; omega)
theorem ST.regCell (h : ST w f B g n x v) (hx : x.cores = l ++ [c]) (hvx : v.cvs = vl ++ [cv]) {gr capr : Nat} (hvr : cv.r = .slice (some ⟨gr, 0, none⟩) 31 capr) {j : Nat} (hj : j < 31) : (∃ u, w.cell? ⟨gr, j, none⟩ = some u) ∧ w.frozen? ⟨gr, j, none⟩ = false ∧ gr < w.heap.size := by
  have q := (h.core_own hx hvx).1
  have h31 := (h.sizes.code c (by rw [hx]; simp)).2.2
  rw [h31] at q
  have k := q.cell hvr (j := j) (by omega)
  refine ⟨⟨_, k.1.trans (List.getElem?_eq_getElem (by simp [h31]; exact hj))⟩, k.2.1, k.2.2⟩
/-- What an append to a row of the last core leaves ahead of the store. -/
structure AppC (w : World) (f : Nat → Nat) (gc m k : Nat) (u : Value) (l : Nat) (w' : World) (f' : Nat → Nat) : Prop where
  agree : ∀ i, i < w.heap.size → f' i = f i
  gl : GL f (fun n => n = l) w w'
  cell : w'.cell? ⟨gc, m * 5 + k, none⟩ = some u
  free : w'.frozen? ⟨gc, m * 5 + k, none⟩ = false
  lt : gc < w'.heap.size
  lg : f' gc = lab 7 0
end
section
variable {w w' : World} {f f' : Nat → Nat} {B g n : Nat} {x : SrcA} {v : SrcV} {l : List CoreA} {c : CoreA} {vl : List CoreV} {cv : CoreV}
theorem ST.app_code (h : ST w f B g n x v) (hx : x.cores = l ++ [c]) (hvx : v.cvs = vl ++ [cv]) {gc cap : Nat} (hvo : v.vCo = .slice (some ⟨gc, 0, none⟩) (l.length + 1) cap) {v' : Value} (i : Ins) (hg : w.grownBy w' cv.c.ownBlock) (ho : w'.ownsRow B 82 6 v' (c.code.length + 1) (insL c.code ++ instrL i.op i.d i.n i.m i.imm i.kind)) (hk : ∀ k, v'.ownBlock = some k → cv.c.ownBlock = some k ∨ w.heap.size ≤ k) (hn : n < 20000) :
    ∃ f', AppC w f gc l.length 3 cv.c (lab 11 l.length) w' f' ∧ ST (w'.setCell ⟨gc, l.length * 5 + 3, none⟩ v') f' B g (n + 1) { x with cores := l ++ [{ c with code := c.code ++ [i] }] } { v with cvs := vl ++ [{ cv with c := v' }] } := by
  have q := h.core_own hx hvx
  have hlv := h.lenl hx hvx
  obtain ⟨f', ha, hO, hG⟩ := q.2.1.app hg ho hk
  have hgc : gc < w.heap.size := (h.coreCell hx hvx hvo 3 (by decide)).2.2
  have hgl := h.gcl hvo
  have hgl' : f' gc = lab 7 0 := by rw [ha gc hgc]; exact hgl
  have p0 := h.parts.but (f' := f') hG ha
  have hrow := p0.cores (by unfold lab; omega)
  rw [hx, hvx] at hrow
  have hl : (l ++ [c]).length = l.length + 1 := by simp
  rw [hl] at hrow
  have hc := hrow.cell hvo (j := l.length * 5 + 3) (by omega)
  rw [coresC_get vl l hlv] at hc
  refine ⟨f', ⟨ha, hG, hc.1, hc.2.1, hc.2.2, hgl'⟩, ?_⟩
  have hG2 : GL f (fun k => k = lab 11 l.length ∨ k = lab 7 0) w (w'.setCell ⟨gc, l.length * 5 + 3, none⟩ v') :=
    (hG.mono (fun k hk => .inl hk)).set (.inr hgl) _ _
  have hS : GL f' (fun k => k = lab 7 0) w' (w'.setCell ⟨gc, l.length * 5 + 3, none⟩ v') := (GL.refl f' _ w').set hgl' _ _
  have h31 := h.sizes.code c (by rw [hx]; simp)
  refine h.last (c' := { c with code := c.code ++ [i] }) (cv' := { cv with c := v' }) hx hvx (L := fun k => k = lab 11 l.length ∨ k = lab 7 0) (fun k hk => by rcases hk with hk | hk <;> simp [hk]) hG2 ha ?_ ⟨?_, ?_, ?_⟩ (Nat.le_succ n) (by omega) ⟨by simp; omega, by exact Nat.le_succ_of_le h31.2.1, h31.2.2⟩
  · have k := hrow.setc hvo (j := l.length * 5 + 3) (by omega) v'
    rw [coresC_set vl l hlv] at k
    rw [coresC_app2 vl l hlv]
    simpa [coreC] using k
  · have k := (q.1.gl hG (by unfold lab; omega)).relab2 q.1 ha
    exact k.gl hS (by unfold lab; omega)
  · have k := hO.gl hS (by unfold lab; omega)
    simpa [insL] using k
  · have k := (q.2.2.gl hG (by unfold lab; omega)).relab2 q.2.2 ha
    exact k.gl hS (by unfold lab; omega)
theorem ST.app_hand (h : ST w f B g n x v) (hx : x.cores = l ++ [c]) (hvx : v.cvs = vl ++ [cv]) {gc cap : Nat} (hvo : v.vCo = .slice (some ⟨gc, 0, none⟩) (l.length + 1) cap) {v' : Value} (i : Ins) (hg : w.grownBy w' cv.h.ownBlock) (ho : w'.ownsRow B 82 6 v' (c.hand.length + 1) (insL c.hand ++ instrL i.op i.d i.n i.m i.imm i.kind)) (hk : ∀ k, v'.ownBlock = some k → cv.h.ownBlock = some k ∨ w.heap.size ≤ k) (hn : n < 20000) :
    ∃ f', AppC w f gc l.length 4 cv.h (lab 12 l.length) w' f' ∧ ST (w'.setCell ⟨gc, l.length * 5 + 4, none⟩ v') f' B g (n + 1) { x with cores := l ++ [{ c with hand := c.hand ++ [i] }] } { v with cvs := vl ++ [{ cv with h := v' }] } := by
  have q := h.core_own hx hvx
  have hlv := h.lenl hx hvx
  obtain ⟨f', ha, hO, hG⟩ := q.2.2.app hg ho hk
  have hgc : gc < w.heap.size := (h.coreCell hx hvx hvo 4 (by decide)).2.2
  have hgl := h.gcl hvo
  have hgl' : f' gc = lab 7 0 := by rw [ha gc hgc]; exact hgl
  have p0 := h.parts.but (f' := f') hG ha
  have hrow := p0.cores (by unfold lab; omega)
  rw [hx, hvx] at hrow
  have hl : (l ++ [c]).length = l.length + 1 := by simp
  rw [hl] at hrow
  have hc := hrow.cell hvo (j := l.length * 5 + 4) (by omega)
  rw [coresC_get vl l hlv] at hc
  refine ⟨f', ⟨ha, hG, hc.1, hc.2.1, hc.2.2, hgl'⟩, ?_⟩
  have hG2 : GL f (fun k => k = lab 12 l.length ∨ k = lab 7 0) w (w'.setCell ⟨gc, l.length * 5 + 4, none⟩ v') :=
    (hG.mono (fun k hk => .inl hk)).set (.inr hgl) _ _
  have hS : GL f' (fun k => k = lab 7 0) w' (w'.setCell ⟨gc, l.length * 5 + 4, none⟩ v') := (GL.refl f' _ w').set hgl' _ _
  have h31 := h.sizes.code c (by rw [hx]; simp)
  refine h.last (c' := { c with hand := c.hand ++ [i] }) (cv' := { cv with h := v' }) hx hvx (L := fun k => k = lab 12 l.length ∨ k = lab 7 0) (fun k hk => by rcases hk with hk | hk <;> simp [hk]) hG2 ha ?_ ⟨?_, ?_, ?_⟩ (Nat.le_succ n) (by omega) ⟨by exact Nat.le_succ_of_le h31.1, by simp; omega, h31.2.2⟩
  · have k := hrow.setc hvo (j := l.length * 5 + 4) (by omega) v'
    rw [coresC_set vl l hlv] at k
    rw [coresC_app2 vl l hlv]
    simpa [coreC] using k
  · have k := (q.1.gl hG (by unfold lab; omega)).relab2 q.1 ha
    exact k.gl hS (by unfold lab; omega)
  · have k := (q.2.1.gl hG (by unfold lab; omega)).relab2 q.2.1 ha
    exact k.gl hS (by unfold lab; omega)
  · have k := hO.gl hS (by unfold lab; omega)
    simpa [insL] using k
end
/-- What an append to the last list of places leaves ahead of the store. -/
structure AppP (w : World) (f : Nat → Nat) (gp m : Nat) (u : Value) (l : Nat) (w' : World) (f' : Nat → Nat) : Prop where
  agree : ∀ i, i < w.heap.size → f' i = f i
  gl : GL f (fun n => n = l) w w'
  cell : w'.cell? ⟨gp, m, none⟩ = some u
  free : w'.frozen? ⟨gp, m, none⟩ = false
  lt : gp < w'.heap.size
  lg : f' gp = lab 5 0
section
variable {w w' : World} {f f' : Nat → Nat} {B g n : Nat} {x : SrcA} {v : SrcV} {ql : List (List Int)} {q : List Int} {il : List Value} {iv : Value}
theorem ST.lenq (h : ST w f B g n x v) (hx : x.pI = ql ++ [q]) (hvx : v.ivs = il ++ [iv]) : il.length = ql.length := by
  have hlc := h.parts.leni
  rw [hx, hvx] at hlc; simpa using hlc
theorem ST.ins_own (h : ST w f B g n x v) (hx : x.pI = ql ++ [q]) (hvx : v.ivs = il ++ [iv]) : OwnL w f B (lab 13 ql.length) 3 1 iv q.length (q.map i64V) := by
  have hlv := h.lenq hx hvx
  have p := h.parts.ins ql.length (by rw [hx]; simp) (by rw [hvx]; simp [hlv])
  have e1 : v.ivs[ql.length]'(by rw [hvx]; simp [hlv]) = iv := by
    simp only [hvx]; rw [List.getElem_append_right (by omega)]; simp [hlv]
  have e2 : x.pI[ql.length]'(by rw [hx]; simp) = q := by simp only [hx]; simp
  rw [e1, e2] at p; exact p
theorem ST.lastins (h : ST w f B g n x v) (hx : x.pI = ql ++ [q]) : ∃ il iv gp cap pq capq, v.ivs = il ++ [iv] ∧ v.vPI = .slice (some ⟨gp, 0, none⟩) (ql.length + 1) cap ∧ iv = .slice pq q.length capq := by
  have hlc := h.parts.leni
  rw [hx] at hlc
  obtain ⟨il, iv, hvx, _⟩ := last_split v.ivs ql.length (by simpa using hlc)
  obtain ⟨gp, cap, hvo, _⟩ := h.parts.pI.some (by rw [hx]; simp)
  obtain ⟨pq, capq, hvq, _⟩ := own_form (h.ins_own hx hvx).1
  rw [hx] at hvo
  exact ⟨il, iv, gp, cap, pq, capq, hvx, by simpa using hvo, hvq⟩
theorem ST.insCell (h : ST w f B g n x v) (hx : x.pI = ql ++ [q]) (hvx : v.ivs = il ++ [iv]) {gp cap : Nat} (hvo : v.vPI = .slice (some ⟨gp, 0, none⟩) (ql.length + 1) cap) : w.cell? ⟨gp, ql.length, none⟩ = some iv ∧ w.frozen? ⟨gp, ql.length, none⟩ = false ∧ gp < w.heap.size := by
  have hrow := h.parts.pI
  rw [hx, hvx] at hrow
  have hl : (ql ++ [q]).length = ql.length + 1 := by simp
  rw [hl] at hrow
  have k := hrow.cell hvo (j := ql.length) (by omega)
  have e : (il ++ [iv])[ql.length]? = some iv := by rw [← h.lenq hx hvx]; simp
  rw [e] at k
  exact k
theorem ST.app_ins (h : ST w f B g n x v) (hx : x.pI = ql ++ [q]) (hvx : v.ivs = il ++ [iv]) {gp cap : Nat} (hvo : v.vPI = .slice (some ⟨gp, 0, none⟩) (ql.length + 1) cap) {v' : Value} (t : Int) (hg : w.grownBy w' iv.ownBlock) (ho : w'.ownsRow B 3 1 v' (q.length + 1) (q.map i64V ++ [i64V t])) (hk : ∀ k, v'.ownBlock = some k → iv.ownBlock = some k ∨ w.heap.size ≤ k) (hn : n < 20000) :
    ∃ f', AppP w f gp ql.length iv (lab 13 ql.length) w' f' ∧ ST (w'.setCell ⟨gp, ql.length, none⟩ v') f' B g (n + 1) { x with pI := ql ++ [q ++ [t]] } { v with ivs := il ++ [v'] } := by
  obtain ⟨f', ha, hO, hG⟩ := (h.ins_own hx hvx).app hg ho hk
  have hlv := h.lenq hx hvx
  have hrow := h.parts.pI
  have hgl : f gp = lab 5 0 := hrow.2 gp (by rw [hvo]; rfl)
  have hrow' : OwnL w' f' B (lab 5 0) 33 1 v.vPI x.pI.length v.ivs := (h.parts.but (f' := f') hG ha).pI (by unfold lab; omega)
  have hgp : gp < w.heap.size := (h.insCell hx hvx hvo).2.2
  have hgl' : f' gp = lab 5 0 := by rw [ha gp hgp]; exact hgl
  rw [hx, hvx] at hrow'
  have hl : (ql ++ [q]).length = ql.length + 1 := by simp
  rw [hl] at hrow'
  have hc := hrow'.cell hvo (j := ql.length) (by omega)
  have e : (il ++ [iv])[ql.length]? = some iv := by rw [← hlv]; simp
  rw [e] at hc
  refine ⟨f', ⟨ha, hG, hc.1, hc.2.1, hc.2.2, hgl'⟩, ?_⟩
  have hG2 : GL f (fun k => k = lab 13 ql.length ∨ k = lab 5 0) w (w'.setCell ⟨gp, ql.length, none⟩ v') :=
    (hG.mono (fun k hk => .inl hk)).set (.inr hgl) _ _
  have p := h.parts.but (f' := f') hG2 ha
  have ne : ∀ k i, 1 ≤ k → k ≤ 13 → k ≠ 5 → ¬ (k = 13 ∧ i = ql.length) → ¬ (lab k i = lab 13 ql.length ∨ lab k i = lab 5 0) := fun k i h1 h2 h3 h4 => by unfold lab; omega
  have hnew : OwnL (w'.setCell ⟨gp, ql.length, none⟩ v') f' B (lab 5 0) 33 1 v.vPI (ql.length + 1) (il ++ [v']) := by
    have k := hrow'.setc hvo (j := ql.length) (by omega) v'
    have e2 : (il ++ [iv]).set ql.length v' = il ++ [v'] := by rw [← hlv]; simp
    rw [e2] at k; exact k
  have hins : OwnL (w'.setCell ⟨gp, ql.length, none⟩ v') f' B (lab 13 ql.length) 3 1 v' (q ++ [t]).length ((q ++ [t]).map i64V) := by
    have k := hO.gl (L := fun k => k = lab 5 0) ((GL.refl f' _ w').set hgl' ql.length v') (by unfold lab; omega)
    simpa using k
  have s := h.sizes.mono (Nat.le_succ n)
  refine ⟨h.blk.gl hG2 (by rw [h.lg]; exact ne 9 0 (by decide) (by decide) (by decide) (by omega)), by rw [ha g h.lt]; exact h.lg, h.le, ⟨p.cells (ne 6 0 (by decide) (by decide) (by decide) (by omega)), p.cores (ne 7 0 (by decide) (by decide) (by decide) (by omega)), p.lenc, fun i h1 h2 => ⟨(p.core i h1 h2).1 (ne 10 i (by decide) (by decide) (by decide) (by omega)), (p.core i h1 h2).2.1 (ne 11 i (by decide) (by decide) (by decide) (by omega)), (p.core i h1 h2).2.2 (ne 12 i (by decide) (by decide) (by decide) (by omega))⟩, p.cond (ne 8 0 (by decide) (by decide) (by decide) (by omega)), p.tables (ne 1 0 (by decide) (by decide) (by decide) (by omega)), p.pT (ne 2 0 (by decide) (by decide) (by decide) (by omega)), p.pC (ne 3 0 (by decide) (by decide) (by decide) (by omega)), p.pCo (ne 4 0 (by decide) (by decide) (by decide) (by omega)), by simpa using hnew, by simp [hlv], ?_⟩, ⟨s.cells, s.cores, s.tables, s.pT, s.pC, s.pCo, ?_, ?_, s.code⟩, by omega⟩
  · intro i h1 h2
    have hl1 : i < ql.length + 1 := by simpa using h1
    rcases Nat.lt_or_ge i ql.length with hi | hi
    · have e1 : (ql ++ [q ++ [t]])[i] = ql[i] := List.getElem_append_left hi
      have e2 : (il ++ [v'])[i] = il[i]'(by omega) := List.getElem_append_left (by omega)
      have k := p.ins i (by rw [hx]; simp; omega) (by rw [hvx]; simp; omega) (ne 13 i (by decide) (by decide) (by decide) (by omega))
      have e3 : x.pI[i]'(by rw [hx]; simp; omega) = ql[i] := by
        simp only [hx]; exact List.getElem_append_left hi
      have e4 : v.ivs[i]'(by rw [hvx]; simp; omega) = il[i]'(by omega) := by
        simp only [hvx]; exact List.getElem_append_left (by omega)
      rw [e3, e4] at k
      show OwnL _ f' B (lab 13 i) 3 1 (il ++ [v'])[i] (ql ++ [q ++ [t]])[i].length ((ql ++ [q ++ [t]])[i].map i64V)
      rw [e1, e2]; exact k
    · have hi2 : i = ql.length := by omega
      subst hi2
      have e1 : (ql ++ [q ++ [t]])[ql.length] = q ++ [t] := by simp
      have e2 : (il ++ [v'])[ql.length] = v' := by rw [List.getElem_append_right (by omega)]; simp [hlv]
      show OwnL _ f' B (lab 13 ql.length) 3 1 (il ++ [v'])[ql.length] (ql ++ [q ++ [t]])[ql.length].length ((ql ++ [q ++ [t]])[ql.length].map i64V)
      rw [e1, e2]; exact hins
  · have := s.pI; rw [hx] at this; simpa using this
  · intro r hr
    rcases List.mem_append.1 hr with hr | hr
    · exact s.ins r (by rw [hx]; exact List.mem_append_left _ hr)
    · have e5 : r = q ++ [t] := by simpa using hr
      subst e5
      have := h.sizes.ins q (by rw [hx]; simp)
      simp; omega
end
end Go.Proofs.YtcaifejfkpmeeaaGreat
