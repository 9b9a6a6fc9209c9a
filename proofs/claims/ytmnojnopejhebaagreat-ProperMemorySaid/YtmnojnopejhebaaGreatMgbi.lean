/- Whether a text is tried; the condition of what was read. -/
import Derived.Test.YtmnojnopejhebaaGreatMgah
import Derived.Test.YtmnojnopejhebaaGreatMgbb
import Derived.Test.YtmnojnopejhebaaGreatMgbh
namespace Go.Proofs.YtmnojnopejhebaaGreat
set_option linter.unusedVariables false
set_option linter.unusedSimpArgs false
set_option maxRecDepth 100000
set_option maxHeartbeats 25600000
section
open Go.RowKit
theorem s0v (s : ByteArray) : ∀ (l : List (Nat × Nat)) (x : SrcA) (n : Nat), Inv x n → (f0u s x l).2.1 = 0 → Inv (f0u s x l).1 (n + l.length)
 | [], x, n, h, h0 => by
  rw [f0u] at h0 ⊢
  split at h0
  ·rename_i h4; rw [if_pos h4]; exact h
  ·exact absurd h0 (by show ¬ (110 : Int) = 0; decide)
 | r :: l, x, n, h, h0 => by
  rw [f0u] at h0 ⊢
  try dsimp only at h0 ⊢
  split at h0
  ·rename_i hc
   rw [if_pos hc]
   have k := s0v s l _ (n + 1) (w0y h _ _) h0
   rw [List.length_cons, show n + (l.length + 1) = n + 1 + l.length by omega]
   exact k
  ·rename_i hc; exact absurd h0 hc
theorem k1u {s : ByteArray} (h : (litA s).2.1 = 0) : Inv (litA s).1 (e0t s 0 []).length := by
 obtain ⟨_, hL⟩ := v0l h
 rw [hL] at h ⊢
 have := s0v s _ src0 0 inv0 h
 rwa [Nat.zero_add] at this
theorem l0g (h : Bool) : ∀ (l : List Ins) (i : Nat), (d0o h i l).2 = 0 → k0k l
 | [], _, _ => fun i hi => absurd hi (by simp)
 | x :: l, i, h0 => by
  unfold d0o at h0
  split at h0
  ·rename_i hx
   have ih := l0g h l (i + 1) h0
   intro j hj
   rcases List.mem_cons.1 hj with e | hj
   ·rw [e]
    unfold insE at hx
    by_cases hr : e0e x.op x.d x.n x.m x.imm x.kind
    ·exact hr
    ·rw [if_pos hr] at hx; exact absurd hx (by decide)
   ·exact ih j hj
  ·rename_i hx; exact absurd h0 hx
theorem i1k {t : List Nat} {c : GCore} {a : Int} {p : List Int} (h : (e0n t c a p).1 = 0) : k0k c.code ∧ k0k c.hand := by
 unfold e0n at h
 split at h
 ·exact absurd h (by show ¬ (133 : Int) = 0; decide)
 split at h
 ·exact absurd h (by show ¬ (131 : Int) = 0; decide)
 split at h
 ·exact absurd h (by show ¬ (1 : Int) = 0; decide)
 split at h
 ·exact absurd h (by show ¬ (136 : Int) = 0; decide)
 split at h
 ·exact absurd h (by show ¬ (136 : Int) = 0; decide)
 split at h
 ·rename_i h6; exact absurd h h6
 rename_i h6
 split at h
 ·rename_i h7; exact absurd h h7
 rename_i h7
 exact ⟨l0g _ _ _ (Decidable.not_not.1 h6), l0g _ _ _ (Decidable.not_not.1 h7)⟩
theorem t0v (x : GSrc) : ∀ (l : List GCore) (i : Nat), (f0p x i l).1 = 0 → ∀ c ∈ l, k0k c.code ∧ k0k c.hand
 | [], _, _ => fun c hc => absurd hc (by simp)
 | c :: l, i, h => by
  unfold f0p at h
  dsimp only at h
  split at h
  ·rename_i h0
   intro d hd
   rcases List.mem_cons.1 hd with e | hd
   ·rw [e]; exact i1k h0
   ·exact t0v x l (i + 1) h d hd
  ·rename_i h0; exact absurd h h0
theorem i1o {x : GSrc} (h : (c0j x).1 = 0) : (x.cores.length ≤ 4 ∧ 0 < x.cores.length) ∧ (∀ c ∈ x.cores, k0k c.code ∧ k0k c.hand) ∧ j0b (x.cores.length : Nat) x.cond = 0 := by
 unfold c0j at h
 dsimp only at h
 split at h
 ·rename_i q; exact absurd h q
 split at h
 ·exact absurd h (by show ¬ (2 : Int) = 0; decide)
 split at h
 ·rename_i q; exact absurd h q
 split at h
 ·exact absurd h (by show ¬ (135 : Int) = 0; decide)
 rename_i q4
 split at h
 ·rename_i q; exact absurd h q
 rename_i q5
 split at h
 ·exact absurd h (by show ¬ (137 : Int) = 0; decide)
 split at h
 ·rename_i q; exact absurd h q
 rename_i q7
 exact ⟨by omega, t0v x x.cores 0 (Decidable.not_not.1 q5), Decidable.not_not.1 q7⟩
theorem f1w : ∀ (t : CT) {n : Int}, n ≤ 4 → b0q n t = 0 → b0q 4 t = 0 := by
 intro t n hn
 refine CT.ind (P := fun t => b0q n t = 0 → b0q 4 t = 0) ?_ t
 intro k c r a v args ih h
 obtain ⟨h0, ha⟩ := j1j h
 obtain ⟨q1, q2, q3, q4⟩ := head0 h0
 have e : f0g k c r 4 args.length = 0 := by
  unfold f0g
  rw [if_neg (by intro e; rcases e with e | e | e | e <;> omega), if_neg (by intro e; have := q4 e.1; omega)]
 rw [b0q, if_pos e]
 have key : ∀ l : List CT, (∀ u ∈ l, b0q 4 u = 0) → c0n 4 l = 0 := by
  intro l
  induction l with
  | nil => intro _; rfl
  | cons u l il => intro hu; rw [c0n, if_pos (hu u (by simp))]; exact il (fun w hw => hu w (by simp [hw]))
 exact key args (fun u hu => ih u hu (ha u hu))
theorem k1c {s : ByteArray} (h : (litA s).2.1 = 0) (hc : (c0j (gsrc (litA s).1)).1 = 0) : TestOK (litA s).1 := by
 obtain ⟨hm, h4⟩ := r0l h
 have hi := k1u h
 obtain ⟨⟨q1, _⟩, q2, q3⟩ := i1o hc
 generalize (litA s).1 = x at *
 have hlen : (gsrc x).cores.length = x.cores.length := by simp [gsrc]
 rw [hlen] at q1 q3
 have hcount : a0u x.cond ≤ 64 ∧ b0q (x.cores.length : Nat) x.cond = 0 := by
  have q3' : j0b (x.cores.length : Nat) x.cond = 0 := q3
  unfold j0b at q3'
  split at q3'
  ·exact absurd q3' (by decide)
  ·rename_i e; exact ⟨by omega, q3'⟩
 refine ⟨hm.name.resolve_left (by omega), hm.tables, hm.cells, by omega, fun c hcm => ?_, rt_of _ hm.cond.1 (f1w _ (by omega) hcount.2), hcount.1⟩
 have hg := q2 (k0w c) (by show k0w c ∈ x.cores.map k0w; exact List.mem_map_of_mem hcm)
 have hcc := hm.cores c hcm
 exact ⟨(hi.1.code c hcm).2.2, hcc.1, hcc.2.1, hcc.2.2, hg.1, hg.2⟩
theorem d0e {p : Pc} (h : pcOK p) : p.2.length ≤ 24 := by
 rcases h with h | h | h | h
 ·rw [h.2]; decide
 ·have key : ∀ b ∈ signL, b.length ≤ 24 := by decide
  exact key _ h.2
 ·exact h.2.2.1
 ·exact h.2.2.1
theorem r0c {n : Int} (h0 : 0 ≤ n) (h1 : n ≤ 31) : (regL n).length ≤ 24 := by
 by_cases e : n = 31
 ·rw [e]; decide
 ·exact d0e (j1k (r := n) ⟨h0, by omega⟩)
theorem e1d {n : Int} (h0 : -1000000000000 < n) (h1 : n < 1000000000000) : (intL n).length ≤ 13 := by
 unfold intL; split
 ·have := o0j 10 (by decide) 11 (-n).toNat (by omega)
  simp; omega
 ·have := o0j 10 (by decide) 11 n.toNat (by omega)
  omega
theorem f1k {op d n m imm kind : Int} (h : e0e op d n m imm kind) : (e0p op d n m imm kind).length ≤ 120 := by
 obtain ⟨⟨hop, ⟨hd0, hd1⟩, ⟨hn0, hn1⟩, ⟨hm0, hm1⟩⟩, hB, hC, hD⟩ := h
 have hmem : op ∈ ([1, 2, 3, 4, 5, 6, 7, 8, 9, 10, 11, 12, 13, 14, 15, 16, 17, 18, 19, 20, 21, 22, 23] : List Int) := by
  simp only [List.mem_cons, List.not_mem_nil, or_false]; omega
 have hname : ∀ op ∈ ([1, 2, 3, 4, 5, 6, 7, 8, 9, 10, 11, 12, 13, 14, 15, 16, 17, 18, 19, 20, 21, 22, 23] : List Int), (e0u op).length ≤ 8 := by decide +kernel
 have N0 := hname op hmem
 have D := r0c hd0 hd1
 have N := r0c hn0 hn1
 have M := r0c hm0 hm1
 have hflush : (g0m kind).length ≤ 9 := by unfold g0m; repeat' split
                                           all_goals decide
 have hbar : (barL kind).length ≤ 9 := by unfold barL; repeat' split
                                          all_goals decide
 have hsys : (sysL kind).length ≤ 9 := by unfold sysL; repeat' split
                                          all_goals decide
 unfold j0t at hC
 have himm : (op = 2 ∨ op = 3 ∨ op = 6 ∨ op = 7 ∨ op = 14 ∨ op = 15 ∨ op = 16 ∨ op = 17) → (intL imm).length ≤ 13 := fun e => e1d (by omega) (by omega)
 have himm2 : op = 6 → (intL (16 * kind)).length ≤ 13 := fun e => e1d (by omega) (by omega)
 have htgt : (op = 14 ∨ op = 15 ∨ op = 16 ∨ op = 17) → (a0l imm).length ≤ 15 := fun e => by
  have := himm (by omega)
  unfold a0l; split <;> simp <;> omega
 unfold e0p
 by_cases e : op = 1 ∨ op = 20 ∨ op = 22
 ·rw [if_pos e]; omega
 rw [if_neg e]
 by_cases e : (op = 2 ∨ op = 3) ∧ ¬ imm = 0
 ·rw [if_pos e]; have := himm (by omega); unfold immL; simp; omega
 rw [if_neg e]
 by_cases e : op = 2 ∨ op = 3 ∨ op = 4 ∨ op = 5
 ·rw [if_pos e]; simp; omega
 rw [if_neg e]
 by_cases e : op = 6
 ·rw [if_pos e]
  have a1 := himm (by omega)
  have a2 := himm2 e
  by_cases e2 : kind = 0
  ·rw [if_pos e2]; unfold immL; simp; omega
  ·rw [if_neg e2]; unfold immL; simp; omega
 rw [if_neg e]
 by_cases e : op = 7
 ·rw [if_pos e]; have := himm (by omega); unfold immL; simp; omega
 rw [if_neg e]
 by_cases e : op = 14
 ·rw [if_pos e]; have := htgt (by omega); simp; omega
 rw [if_neg e]
 by_cases e : op = 15 ∨ op = 16
 ·rw [if_pos e]; have := htgt (by omega); simp; omega
 rw [if_neg e]
 by_cases e : op = 17
 ·rw [if_pos e]
  have := htgt (by omega)
  by_cases e2 : kind = 0
  ·rw [if_pos e2]; simp; omega
  ·rw [if_neg e2]; simp; omega
 rw [if_neg e]
 by_cases e : op = 18
 ·rw [if_pos e]; simp; omega
 rw [if_neg e]
 by_cases e : op = 19
 ·rw [if_pos e]; simp; omega
 rw [if_neg e]
 by_cases e : op = 21
 ·rw [if_pos e]
  by_cases e2 : kind % 4 = 0
  ·rw [if_pos e2]; simp; omega
  ·rw [if_neg e2]; simp; omega
 rw [if_neg e]
 by_cases e : op = 23
 ·rw [if_pos e]; simp; omega
 rw [if_neg e]
 by_cases e : op = 13 ∧ d = 31
 ·rw [if_pos e]; simp; omega
 rw [if_neg e]
 unfold n0d; simp; omega
theorem e1g {i : Ins} (h : e0e i.op i.d i.n i.m i.imm i.kind) : (insT i).length ≤ 120 := by rw [l1c h]; exact f1k h
theorem i1l {t : CT} (h : RT t) : (a0j t).length + 2 ≤ 80 * a0u t := by
 induction h with
 | reg c r a v hc hr hv =>
  have e : a0j (.mk 1 c r a v []) = intL c ++ ([58] ++ (regL r ++ ([61] ++ hexL v))) := by simp [a0j, v0j, n0m]
  have a1 := d0e (d1d hc)
  have a2 := d0e (j1k hr)
  have a3 := d0e (l0s v hv)
  rw [e, a0u, b0s]; simp at a1 a2 a3 ⊢; omega
 | cell c r a v ha hv =>
  have e : a0j (.mk 2 c r a v []) = [91] ++ (hexL a ++ ([93, 61] ++ hexL v)) := by simp [a0j, v0j, n0m]
  have a1 := d0e (l0s a ha)
  have a3 := d0e (l0s v hv)
  rw [e, a0u, b0s]; simp at a1 a3 ⊢; omega
 | flt c r a v hc hv =>
  have e : a0j (.mk 3 c r a v []) = [102, 97, 117, 108, 116, 115, 32] ++ (intL c ++ ([61] ++ hexL v)) := by simp [a0j, v0j, n0m]
  have a1 := d0e (d1d hc)
  have a3 := d0e (l0s v hv)
  rw [e, a0u, b0s]; simp at a1 a3 ⊢; omega
 | tru c r a v =>
  have e : a0j (.mk 7 c r a v []) = [116, 114, 117, 101] := by simp [a0j, v0j, n0m]
  rw [e, a0u, b0s]; simp
 | not c r a v hx ih =>
  rename_i x
  rw [a0j, e0v, e0v, a0u, b0s, b0s]
  show ([126] ++ e0f 3 (b0v x, a0j x)).length + 2 ≤ _
  have := b0w 3 (b0v x, a0j x)
  simp at this ⊢; omega
 | and c r a v hx hy ihx ihy =>
  rename_i x y
  rw [a0j, e0v, e0v, e0v, a0u, b0s, b0s, b0s]
  show (e0f 2 (b0v x, a0j x) ++ [32, 47, 92, 32] ++ e0f 3 (b0v y, a0j y)).length + 2 ≤ _
  have a1 := b0w 2 (b0v x, a0j x)
  have a2 := b0w 3 (b0v y, a0j y)
  simp at a1 a2 ⊢; omega
 | or c r a v hx hy ihx ihy =>
  rename_i x y
  rw [a0j, e0v, e0v, e0v, a0u, b0s, b0s, b0s]
  show (e0f 1 (b0v x, a0j x) ++ [32, 92, 47, 32] ++ e0f 2 (b0v y, a0j y)).length + 2 ≤ _
  have a1 := b0w 1 (b0v x, a0j x)
  have a2 := b0w 2 (b0v y, a0j y)
  simp at a1 a2 ⊢; omega
theorem s0z : ∀ (rs : List Nat) (k : Nat), k + rs.length ≤ 31 → (∀ v ∈ rs, v < W64) → ∀ l ∈ a0r rs k, l.length ≤ 120
 | [], _, _, _, l, hl => by simp [a0r] at hl
 | v :: rs, k, hk, hv, l, hl => by
  have hk' : k + (rs.length + 1) ≤ 31 := by simpa using hk
  unfold a0r at hl
  rcases List.mem_append.1 hl with hl | hl
  ·by_cases h0 : v = 0
   ·rw [if_pos h0] at hl; simp at hl
   ·rw [if_neg h0] at hl
    have e : l = flat ((1, p0c) :: y0y k v) := by simpa using hl
    have e2 : flat ((1, p0c) :: y0y k v) = p0c ++ ([32] ++ (regL (k : Nat) ++ ([32, 61, 32] ++ hexL v))) := by simp [flat, y0y]
    have a1 := r0c (n := (k : Nat)) (by omega) (by omega)
    have a2 := d0e (l0s v (hv v (by simp)))
    rw [e, e2]; simp [p0c] at a2 ⊢; omega
  ·exact s0z rs (k + 1) (by omega) (fun u hu => hv u (by simp [hu])) l hl
theorem e1r {i : Nat} (hi : i < 65536) {c : CoreA} (hc : CoreOK c) : ∀ l ∈ d0g i c, l.length ≤ 120 := by
 intro l hl
 unfold d0g at hl
 rcases List.mem_cons.1 hl with e | hl
 ·rw [e]
  have a1 := d0e (j1l i hi).1
  have a2 := d0e (j1l c.space hc.space).1
  have a3 := d0e (l0s c.table hc.table)
  unfold n0g
  by_cases h0 : c.space = 0
  ·rw [if_pos h0]; simp [flat, h0o, a0p] at a1 a3 ⊢; omega
  ·rw [if_neg h0]; simp [flat, h0o, a0p, m0t] at a1 a2 a3 ⊢; omega
 ·rcases List.mem_append.1 hl with hl | hl
  ·exact s0z c.regs 0 (by rw [hc.len]; omega) hc.regs l hl
  ·rcases List.mem_append.1 hl with hl | hl
   ·obtain ⟨i, hi, rfl⟩ := List.mem_map.1 hl
    exact e1g (hc.code i hi)
   ·unfold l0z at hl
    split at hl
    ·simp at hl
    ·rcases List.mem_cons.1 hl with e | hl
     ·rw [e]; decide
     ·obtain ⟨i, hi, rfl⟩ := List.mem_map.1 hl
      exact e1g (hc.hand i hi)
theorem q0p : ∀ (cs : List CoreA) (i : Nat), i + cs.length < 65536 → (∀ c ∈ cs, CoreOK c) → ∀ l ∈ a0k i cs, l.length ≤ 120
 | [], _, _, _, l, hl => by simp [a0k] at hl
 | c :: cs, i, hi, h, l, hl => by
  have hi' : i + (cs.length + 1) < 65536 := by simpa using hi
  unfold a0k at hl
  rcases List.mem_append.1 hl with hl | hl
  ·exact e1r (by omega) (h c (by simp)) l hl
  ·exact q0p cs (i + 1) (by omega) (fun d hd => h d (by simp [hd])) l hl
theorem x0p : ∀ (ls : List (List UInt8)), (∀ l ∈ ls, l.length ≤ 120) → (ls.flatMap fun l => l ++ [10]).length ≤ ls.length * 121
 | [], _ => by simp
 | l :: ls, h => by
  have ih := x0p ls (fun k hk => h k (by simp [hk]))
  have := h l (by simp)
  rw [List.flatMap_cons, List.length_append, List.length_append]
  show l.length + 1 + _ ≤ (ls.length + 1) * 121
  omega
theorem b1q {x : SrcA} (h : TestOK x) (hw : srcW x ≤ 60) : (p0p x).length ≤ 16384 := by
 have e : h0i x = (flat ((1, j0v) :: l0q x.name.data.toList) :: (x.tables.map (fun v => flat ((1, a0p) :: b0i v)) ++ (x.cells.map (fun p => flat ((1, c0i) :: c0x p.1 p.2)) ++ a0k 0 x.cores))) ++ [i0h x.fa x.cond] := by
  unfold h0i; simp
 have hl := r0f x
 rw [e, List.length_append, List.length_singleton] at hl
 have hc := i1l h.cond
 have hcl : (i0h x.fa x.cond).length ≤ 5200 := by
  have := h.count
  unfold i0h
  cases x.fa <;> simp [j0i, j0j] <;> omega
 unfold p0p
 rw [e, List.flatMap_append, List.length_append]
 have hA := x0p (flat ((1, j0v) :: l0q x.name.data.toList) :: (x.tables.map (fun v => flat ((1, a0p) :: b0i v)) ++ (x.cells.map (fun p => flat ((1, c0i) :: c0x p.1 p.2)) ++ a0k 0 x.cores))) (by
  intro l hl
  rcases List.mem_cons.1 hl with e | hl
  ·have a1 := d0e h.name
   rw [e]; simp [flat, l0q, j0v] at a1 ⊢; omega
  rcases List.mem_append.1 hl with hl | hl
  ·obtain ⟨v, hv, rfl⟩ := List.mem_map.1 hl
   have a1 := d0e (l0s v (h.tables v hv))
   simp [flat, b0i, a0p] at a1 ⊢; omega
  rcases List.mem_append.1 hl with hl | hl
  ·obtain ⟨p, hv, rfl⟩ := List.mem_map.1 hl
   have a1 := d0e (l0s p.1 (h.cells p hv).1)
   have a2 := d0e (l0s p.2 (h.cells p hv).2)
   simp [flat, c0x, c0i] at a1 a2 ⊢; omega
  ·exact q0p x.cores 0 (by have := h.len; omega) h.cores l hl)
 have e3 : (List.flatMap (fun l => l ++ [10]) [i0h x.fa x.cond]).length = (i0h x.fa x.cond).length + 1 := by simp
 rw [e3]
 omega
theorem pro_ok {s : ByteArray} (h : (c0o s).2.1 = 0) (hr : (e0t s 0 []).length ≤ 60) : TestOK (c0o s).1 ∧ (p0p (c0o s).1).length ≤ 16384 := by
 unfold c0o at h ⊢
 by_cases h1 : ¬ (litA s).2.1 = 0
 ·rw [if_pos h1] at h; exact absurd h h1
 rw [if_neg h1] at h ⊢
 by_cases h2 : ¬ (c0j (gsrc (litA s).1)).1 = 0
 ·rw [if_pos h2] at h; exact absurd h h2
 rw [if_neg h2]
 have h1' := Decidable.not_not.1 h1
 have hok := k1c h1' (Decidable.not_not.1 h2)
 obtain ⟨hm, h4⟩ := r0l h1'
 have hw := z0m h1'
 dsimp only
 generalize (litA s).1 = x at *
 exact ⟨hok, b1q hok (by omega)⟩
end
section
open Go.RowKit
def o0r : ByteArray := ⟨#[116, 101, 115, 116, 32, 97, 10, 116, 97, 98, 108, 101, 32, 48, 120, 49, 48, 48, 48, 10, 99, 101, 108, 108, 32, 48, 120, 49, 48, 48, 48, 32, 61, 32, 48, 120, 50, 48, 48, 51, 10, 99, 111, 114, 101, 32, 48, 32, 116, 97, 98, 108, 101, 32, 48, 120, 49, 48, 48, 48, 10, 114, 101, 103, 32, 88, 49, 32, 61, 32, 48, 120, 49, 48, 10, 76, 68, 82, 32, 88, 48, 44, 91, 88, 49, 93, 10, 101, 120, 105, 115, 116, 115, 32, 48, 58, 88, 48, 61, 48, 120, 49, 10]⟩
def l0r : ByteArray := ⟨#[116, 101, 115, 116, 32, 97, 10, 116, 97, 98, 108, 101, 32, 48, 120, 49, 48, 48, 48, 10, 99, 111, 114, 101, 32, 48, 32, 116, 97, 98, 108, 101, 32, 48, 120, 49, 48, 48, 48, 10, 66, 32, 46, 43, 48, 10, 101, 120, 105, 115, 116, 115, 32, 116, 114, 117, 101, 10]⟩
def c1w : Bool := decide ((c0o o0r).2.1 = 0) && decide (p0p (c0o o0r).1 = o0r.data.toList) && decide (c0c (gsrc (c0o o0r).1).cores.length (gsrc (c0o o0r).1).cores = 3) && decide ((c0o l0r).2.1 = 134) && decide ((e0t o0r 0 []).length ≤ 60)
theorem g1l : c1w = true := by kernel_rfl
theorem m1c : ∃ x cb, c0o o0r = (x, 0, cb) ∧ TestOK x ∧ (p0p x).length ≤ 16384 ∧ ba (p0p x) = o0r ∧ c0c (gsrc x).cores.length (gsrc x).cores = 3 ∧ ∃ db, c0o l0r = (src0, 134, db) := by
 have h := g1l
 unfold c1w at h
 simp only [Bool.and_eq_true, decide_eq_true_eq] at h
 obtain ⟨⟨⟨⟨h1, h2⟩, h3⟩, h4⟩, h5⟩ := h
 have hp := pro_ok h1 h5
 refine ⟨(c0o o0r).1, (c0o o0r).2.2, by rw [← h1], hp.1, hp.2, by rw [h2]; rfl, h3, (c0o l0r).2.2, ?_⟩
 have e : c0o l0r = ((c0o l0r).1, (c0o l0r).2.1, (c0o l0r).2.2) := rfl
 rw [e, h4]
 have e2 : (c0o l0r).1 = src0 := by
  have h4' := h4
  unfold c0o at h4' ⊢
  split
  ·rfl
  split
  ·rfl
  ·rename_i c1 c2; rw [if_neg c1, if_neg c2] at h4'; simp at h4'
 rw [e2]
theorem z0d (w : World) : Calls Tryz.prog 7 #[] w fun e w' => e = .returned (.bool true) ∧ Below w.heap.size w w' := by
 obtain ⟨x, cb, h1, hok, hlen, htx, hev, db, h2⟩ := m1c
 have HR1 := h_ (fun (w1 : World) => show Calls Tryz.prog 9 #[.string ⟨#[116, 101, 115, 116, 32, 97, 10, 116, 97, 98, 108, 101, 32, 48, 120, 49, 48, 48, 48, 10, 99, 101, 108, 108, 32, 48, 120, 49, 48, 48, 48, 32, 61, 32, 48, 120, 50, 48, 48, 51, 10, 99, 111, 114, 101, 32, 48, 32, 116, 97, 98, 108, 101, 32, 48, 120, 49, 48, 48, 48, 10, 114, 101, 103, 32, 88, 49, 32, 61, 32, 48, 120, 49, 48, 10, 76, 68, 82, 32, 88, 48, 44, 91, 88, 49, 93, 10, 101, 120, 105, 115, 116, 115, 32, 48, 58, 88, 48, 61, 48, 120, 49, 10]⟩] w1 (fun e w' => ∃ v', e = .returned (.tuple #[.agg (srcC x v').toArray, .agg #[.int .i64 0, .int .i64 cb]]) ∧ (srcC x v').toArray.all (·.oneCell') = true ∧ GRd w' (gsrc x) v' ∧ TestRd w' x v' ∧ Below w1.heap.size w1 w') from by
  have q := o0s o0r w1 (by decide)
  unfold e0z at q; rw [h1] at q; exact q)
 have HR2 := h_ (fun (w1 : World) => show Calls Tryz.prog 9 #[.string ⟨#[116, 101, 115, 116, 32, 97, 10, 116, 97, 98, 108, 101, 32, 48, 120, 49, 48, 48, 48, 10, 99, 111, 114, 101, 32, 48, 32, 116, 97, 98, 108, 101, 32, 48, 120, 49, 48, 48, 48, 10, 66, 32, 46, 43, 48, 10, 101, 120, 105, 115, 116, 115, 32, 116, 114, 117, 101, 10]⟩] w1 (fun e w' => ∃ v', e = .returned (.tuple #[.agg (srcC src0 v').toArray, .agg #[.int .i64 134, .int .i64 db]]) ∧ (srcC src0 v').toArray.all (·.oneCell') = true ∧ GRd w' (gsrc src0) v' ∧ TestRd w' src0 v' ∧ Below w1.heap.size w1 w') from by
  have q := o0s l0r w1 (by decide)
  unfold e0z at q; rw [h2] at q; exact q)
 have HPR := h_ (fun (w1 : World) (v : SrcV) (h : GRd w1 (gsrc x) v) => show Calls Tryz.prog 10 #[.agg [.string x.name, v.vC, v.vCo, .bool x.fa, v.k0, v.k1, v.k2, v.k3, v.k4, v.k5, v.vT, v.vPT, v.vPC, v.vPCo, v.vPI, .int .i64 x.pCond].toArray] w1 (fun e w' => e = .returned (.string ⟨#[116, 101, 115, 116, 32, 97, 10, 116, 97, 98, 108, 101, 32, 48, 120, 49, 48, 48, 48, 10, 99, 101, 108, 108, 32, 48, 120, 49, 48, 48, 48, 32, 61, 32, 48, 120, 50, 48, 48, 51, 10, 99, 111, 114, 101, 32, 48, 32, 116, 97, 98, 108, 101, 32, 48, 120, 49, 48, 48, 48, 10, 114, 101, 103, 32, 88, 49, 32, 61, 32, 48, 120, 49, 48, 10, 76, 68, 82, 32, 88, 48, 44, 91, 88, 49, 93, 10, 101, 120, 105, 115, 116, 115, 32, 48, 58, 88, 48, 61, 48, 120, 49, 10]⟩) ∧ Below w1.heap.size w1 w') from by
  have q := y0z w1 h hok hlen
  rw [htx] at q; exact q)
 have HEV := h_ (fun (w1 : World) (v : SrcV) (h : GRd w1 (gsrc x) v) => show Calls Tryz.prog 17 #[.agg [.string x.name, v.vC, v.vCo, .bool x.fa, v.k0, v.k1, v.k2, v.k3, v.k4, v.k5].toArray] w1 (fun e w' => e = .returned (.int .i64 3) ∧ Below w1.heap.size w1 w') from by
  have q := q0k w1 h
  rw [hev] at q; exact q)
 dsimp only [List.toArray] at HPR HEV
 clear h1 h2 hok hlen htx hev
 have HB0 := h_ (Below.refl w.heap.size w)
 go_enter Tryz.func7, Tryz.ntmps7
 go_wp2_with fail
 refine (HR1.out _).mono ?_
 rintro e w1 ⟨v1, rfl, hone, hG, hT, hb⟩
 have HON1 := h_ hone
 obtain ⟨S1, S2, S3⟩ := o0l w1 (.cells #[.string ⟨#[]⟩, .slice none 0 0, .slice none 0 0, .bool false, .int .i64 0, .int .i64 0, .int .i64 0, .int .u64 0, .int .u64 0, .slice none 0 0, .slice none 0 0, .slice none 0 0, .slice none 0 0, .slice none 0 0, .slice none 0 0, .int .i64 0] 38) (.cells #[.int .i64 0, .int .i64 0] 41) 38 41 _ _ (srcC x v1).toArray #[.int .i64 (0), .int .i64 (cb)] rfl rfl
 have HB1 := h_ (bt_ (bt_ HB0.out hb) S3)
 have HG1 := h_ (hG.below S3)
 have HT1 := h_ (hT.below S3)
 have HS1 := h_ S1
 have HP1 := h_ S2
 have l1a := S1.lt
 have l1b := S2.lt
 have hi1 := h_ (show (Tryz.prog.info? 38).map (·.size) = some (srcC x v1).toArray.size by kernel_rfl)
 have hz1 := h_ (show (srcC x v1).toArray.size = 16 from rfl)
 clear hone hG hT hb S1 S2 S3 HB0 
 go_wp2_with (first | (refine wpList_store_row rfl 38 (.tmp 1) (.tmp 7) rfl w1.heap.size (srcC x v1).toArray rfl rfl 38 _ (heap_alloc2_old w1 _ _) hi1.out (by rw [hz1.out]; rfl) HON1.out ?_) | (refine wpList_store_row rfl 41 (.tmp 2) (.tmp 8) rfl (w1.heap.size + 1) #[.int .i64 (0), .int .i64 (cb)] rfl rfl 41 _ ((setRow_other _ _ _ _ (by omega)).trans (heap_alloc2_new w1 _ _)) (by kernel_rfl) rfl (by kernel_rfl) ?_; generalize ((((w1.alloc (.cells #[.string ⟨#[]⟩, .slice none 0 0, .slice none 0 0, .bool false, .int .i64 0, .int .i64 0, .int .i64 0, .int .u64 0, .int .u64 0, .slice none 0 0, .slice none 0 0, .slice none 0 0, .slice none 0 0, .slice none 0 0, .slice none 0 0, .int .i64 0] 38)).alloc (.cells #[.int .i64 0, .int .i64 0] 41)).setRow w1.heap.size (srcC x v1).toArray).setRow (w1.heap.size + 1) #[.int .i64 (0), .int .i64 (cb)]) = u1 at *; generalize w1.heap.size = g1 at *))
 refine (HR2.out _).mono ?_
 rintro e w2 ⟨v2, rfl, hone, hG, hT, hb⟩
 have HON2 := h_ hone
 obtain ⟨S1, S2, S3⟩ := o0l w2 (.cells #[.string ⟨#[]⟩, .slice none 0 0, .slice none 0 0, .bool false, .int .i64 0, .int .i64 0, .int .i64 0, .int .u64 0, .int .u64 0, .slice none 0 0, .slice none 0 0, .slice none 0 0, .slice none 0 0, .slice none 0 0, .slice none 0 0, .int .i64 0] 38) (.cells #[.int .i64 0, .int .i64 0] 41) 38 41 _ _ (srcC src0 v2).toArray #[.int .i64 (134), .int .i64 (db)] rfl rfl
 have HB2 := h_ (bt_ (bt_ HB1.out hb) S3)
 have HG2 := h_ (hG.below S3)
 have HT2 := h_ (hT.below S3)
 have HG1' := h_ ((HG1.out.below hb).below S3)
 have HS1' := h_ ((HS1.out.below hb).below S3)
 have HP1' := h_ ((HP1.out.below hb).below S3)
 have HS2 := h_ S1
 have HP2 := h_ S2
 have l2a := S1.lt
 have l2b := S2.lt
 have hi2 := h_ (show (Tryz.prog.info? 38).map (·.size) = some (srcC src0 v2).toArray.size by kernel_rfl)
 have hz2 := h_ (show (srcC src0 v2).toArray.size = 16 from rfl)
 clear hone hG hT hb S1 S2 S3 HB1 HG1 HS1 HP1
 obtain ⟨d0, d1, d2, d3, d4, d5, d6, d7, d8, d9, d10, d11, d12, d13, d14, d15⟩ := b1w HS1'.out
 have p0 : ((((w2.alloc (.cells #[.string ⟨#[]⟩, .slice none 0 0, .slice none 0 0, .bool false, .int .i64 0, .int .i64 0, .int .i64 0, .int .u64 0, .int .u64 0, .slice none 0 0, .slice none 0 0, .slice none 0 0, .slice none 0 0, .slice none 0 0, .slice none 0 0, .int .i64 0] 38)).alloc (.cells #[.int .i64 0, .int .i64 0] 41)).setRow w2.heap.size (srcC src0 v2).toArray).setRow (w2.heap.size + 1) #[.int .i64 (134), .int .i64 (db)]).cell? ⟨g1 + 1, 0, none⟩ = some (.int .i64 0) := HP1'.out.cell 0
 have q0 : ((((w2.alloc (.cells #[.string ⟨#[]⟩, .slice none 0 0, .slice none 0 0, .bool false, .int .i64 0, .int .i64 0, .int .i64 0, .int .u64 0, .int .u64 0, .slice none 0 0, .slice none 0 0, .slice none 0 0, .slice none 0 0, .slice none 0 0, .slice none 0 0, .int .i64 0] 38)).alloc (.cells #[.int .i64 0, .int .i64 0] 41)).setRow w2.heap.size (srcC src0 v2).toArray).setRow (w2.heap.size + 1) #[.int .i64 (134), .int .i64 (db)]).cell? ⟨w2.heap.size + 1, 0, none⟩ = some (.int .i64 134) := HP2.out.cell 0
 have l3 := HS1'.out.lt
 have l4 := HP1'.out.lt
 go_wp2_with (first | (refine wpList_store_row rfl 38 (.tmp 3) (.tmp 11) rfl w2.heap.size (srcC src0 v2).toArray rfl rfl 38 _ (heap_alloc2_old w2 _ _) hi2.out (by rw [hz2.out]; rfl) HON2.out ?_) | (refine wpList_store_row rfl 41 (.tmp 4) (.tmp 12) rfl (w2.heap.size + 1) #[.int .i64 (134), .int .i64 (db)] rfl rfl 41 _ ((setRow_other _ _ _ _ (by omega)).trans (heap_alloc2_new w2 _ _)) (by kernel_rfl) rfl (by kernel_rfl) ?_; generalize ((((w2.alloc (.cells #[.string ⟨#[]⟩, .slice none 0 0, .slice none 0 0, .bool false, .int .i64 0, .int .i64 0, .int .i64 0, .int .u64 0, .int .u64 0, .slice none 0 0, .slice none 0 0, .slice none 0 0, .slice none 0 0, .slice none 0 0, .slice none 0 0, .int .i64 0] 38)).alloc (.cells #[.int .i64 0, .int .i64 0] 41)).setRow w2.heap.size (srcC src0 v2).toArray).setRow (w2.heap.size + 1) #[.int .i64 (134), .int .i64 (db)]) = u2 at *; generalize w2.heap.size = g2 at *))
 refine (HPR.out u2 v1 HG1'.out).mono ?_
 rintro e w3 ⟨rfl, hb⟩
 have HB3 := h_ (bt_ HB2.out hb)
 have HG3 := h_ (HG1'.out.below hb)
 have HS3 := h_ (HS1'.out.below hb)
 have HP3 := h_ (HP2.out.below hb)
 clear hb d0 d1 d2 d3 d4 d5 d6 d7 d8 d9 d10 d11 d12 d13 d14 d15 p0 q0 l3 l4 l1a l1b l2a l2b
 obtain ⟨d0, d1, d2, d3, d4, d5, d6, d7, d8, d9, -⟩ := b1w HS3.out
 have l3 := HS3.out.lt
 have l4 := HP3.out.lt
 go_wp2_with fail
 refine (HEV.out w3 v1 HG3.out).mono ?_
 rintro e w4 ⟨rfl, hb⟩
 have HB4 := h_ (bt_ HB3.out hb)
 have HP4 := h_ (HP3.out.below hb)
 clear hb d0 d1 d2 d3 d4 d5 d6 d7 d8 d9
 have q0 := HP4.out.cell 0
 have l5 := HP4.out.lt
 simp only [Array.toList, gz_] at q0
 go_wp2_with fail
 go_ret
 exact ⟨rfl, HB4.out⟩
end
section
open Go.RowKit
theorem e1m : El Tryz.prog 67 108 (.agg #[.string ⟨#[]⟩, .int .i64 0]) 2 24 := ⟨Tryz.underlying67, by kernel_rfl⟩
theorem o0m {s : ByteArray} {k : Nat} (h : k + 2 ≤ s.size) : ((s.extract k (k + 2)).toList == [47, 47]) = g0j s k := by
 have e : (s.extract k (k + 2)).toList = [s[k], s[k + 1]] := by
  rw [d0y]
  apply List.ext_getElem
  ·simp; omega
  ·intro i h1 h2
   match i, h2 with
   | 0, _ => simp; rfl
   | 1, _ => simp; rfl
 rw [e]; unfold g0j
 rw [h0c (show k < s.size by omega), h0c (show k + 1 < s.size by omega), Bool.eq_iff_iff]
 have q : ∀ c : UInt8, c = 47 ↔ ((c.toNat : Int) = 47) := by
  intro c
  constructor
  ·intro h; rw [h]; rfl
  ·intro h
   apply UInt8.toNat_inj.1
   show c.toNat = 47
   omega
 simp [q]
def k0t (s : ByteArray) (w : World) (f : Nat) (v : Value) (acc : List (Nat × Nat)) (wr : World) : Prop :=
 acc.length ≤ f ∧ e0t s f acc = e0t s 0 [] ∧ wr.ownsRow w.heap.size 108 2 v acc.length (d0u s acc) ∧ Below w.heap.size w wr
theorem g0x {s : ByteArray} {w : World} {k f : Nat} {v : Value} {acc : List (Nat × Nat)} {wr : World} (h : k0t s w f v acc wr) (hf : f ≤ s.size) (hs : scan (nlB s) s.size f = k) (hfk : f ≤ k) (hab : ¬ b0j s f k < b0e s f k) : k0t s w (k + 1) v acc wr := by
 obtain ⟨h2, h4, h5, h6⟩ := h
 exact ⟨by omega, by rw [← h4, h0e (f := f) hf, hs, if_neg hab], h5, h6⟩
theorem n0e {s : ByteArray} {w : World} {k f : Nat} {v v' : Value} {acc : List (Nat × Nat)} {wr w' : World} (h : k0t s w f v acc wr) (hf : f ≤ s.size) (hs : scan (nlB s) s.size f = k) (hfk : f ≤ k) (hab : b0j s f k < b0e s f k)
  (ho : w'.ownsRow w.heap.size 108 2 v' (acc.length + 1) (d0u s acc ++ [.string (s.extract (b0j s f k) (b0e s f k)), .int .i64 (b0j s f k : Nat)])) (hb : Below w.heap.size wr w') : k0t s w (k + 1) v' (acc ++ [(b0j s f k, b0e s f k)]) w' := by
 obtain ⟨h2, h4, h5, h6⟩ := h
 exact ⟨by simp; omega, by rw [← h4, h0e (f := f) hf, hs, if_pos hab], by rw [l0o, List.length_append]; exact ho, h6.trans hb⟩
theorem r0t (s : ByteArray) (t : Nat) : cutF s (t - 1) t = t := by
 unfold cutF
 rw [c0g (by omega)]
 split <;> omega
theorem t0t {s : ByteArray} {j t : Nat} (h : j + 2 ≤ t) : cutF s j t = if g0j s j then j else cutF s (j + 1) t := by
 unfold cutF
 cases hp : g0j s j
 ·rw [c0w (by omega) hp]; simp
 ·rw [e0r (by omega) hp, if_pos (by omega)]; simp
theorem t0u {s : ByteArray} {f j k : Nat} (hfj : f ≤ j) (h1 : j < f + 2) (h : j = k ∨ f + 1 ≤ j) (hk : j ≤ k) : cutF s (j - 1) k = cutF s f k := by
 rcases h with rfl | h
 ·rw [r0t]
  unfold cutF
  rw [c0g (by omega)]
  split <;> omega
 ·rw [show j - 1 = f by omega]
theorem c1g (s : ByteArray) (w : World) (hs : s.size ≤ 140737488351232) (hs2 : s.size * 24 ≤ 140737488351232) :
  Calls Tryz.prog 25 #[.string s] w fun e w' => ∃ v, e = .returned v ∧ w'.ownsRow w.heap.size 108 2 v (e0t s 0 []).length (d0u s (e0t s 0 [])) ∧ Below w.heap.size w w' := by
 have H0 := h_ (show k0t s w 0 (.slice none 0 0) [] w from ⟨Nat.le_refl _, rfl, World.ownsRow_nil _ _ _ _, Below.refl _ _⟩)
 go_enter Tryz.func25, Tryz.ntmps25
 go_wp2_with fail
 go_loopw [3, 4] (fun v f wr => ∃ (f' : Nat) (acc : List (Nat × Nat)), f' ≤ s.size + 1 ∧ f = .int .i64 f' ∧ k0t s w f' v acc wr) (fun _ f _ => s.size + 1 - (intOf f).toNat)
 case atStart => exact ⟨0, [], by omega, rfl, H0.out⟩
 case round =>
  obtain ⟨f, acc, hf1, rfl, hI⟩ := hrel
  have HI := h_ hI
  clear hI
  obtain ⟨wo, rfl⟩ : ∃ wo : World, wo = wr := ⟨_, rfl⟩
  by_cases hle : f ≤ s.size
  ·have HSB := h_ ((i0f (nlB s) s.size _ f rfl).2 hle)
   go_wp2_with fail
   go_loop [5] (fun i => ∃ k : Nat, f ≤ k ∧ k ≤ s.size ∧ i = .int .i64 k ∧ scan (nlB s) s.size k = scan (nlB s) s.size f) (fun i => s.size - (intOf i).toNat)
   case atStart => exact ⟨f, Nat.le_refl _, hle, rfl, rfl⟩
   case round =>
    obtain ⟨k, hfk, hks, rfl, hsc⟩ := hrel
    have HS := h_ hsc
    clear hsc
    by_cases hlt : k < s.size
    ·cases h10 : ((s[k].toNat : Int) == 10)
     ·have n10 : ((s[k].toNat : Int) != 10) = true := by simp only [bne, h10, Bool.not_false]
      have HS2 := h_ ((c0w hlt (show nlB s k = false by unfold nlB; rw [h0c hlt]; exact h10)).symm.trans HS.out)
      go_wp2_with fail
      go_round
      case rel => exact ⟨k + 1, by omega, by omega, by go_num, HS2.out⟩
      case measure => simp [intOf]; omega
     ·have n10 : ((s[k].toNat : Int) != 10) = false := by simp only [bne, h10, Bool.not_true]
      have HST := h_ (show scan (nlB s) s.size f = k from HS.out.symm.trans (e0r hlt (by unfold nlB; rw [h0c hlt]; exact h10)))
      clear HS
      go_wp2_with fail
      go_loop [6, 7] (fun e i => ∃ j : Nat, j ≤ k ∧ (j = k ∨ f + 1 ≤ j) ∧ f ≤ j ∧ i = .int .i64 ((j : Int) - 2) ∧ e = .int .i64 (cutF s (j - 1) k : Nat)) (fun _ i => (intOf i + 2).toNat)
      case atStart => exact ⟨k, Nat.le_refl _, .inl rfl, hfk, by go_num, by rw [r0t]⟩
      case round =>
       obtain ⟨j, hjk, hjf, hfj, rfl, rfl⟩ := hrel
       by_cases hj : f + 2 ≤ j
       ·obtain ⟨q, rfl⟩ : ∃ q, j = q + 2 := ⟨j - 2, by omega⟩
        have HCS := h_ (t0t (s := s) (j := q) (t := k) (by omega))
        have hsl := o0m (s := s) (k := q) (by omega)
        have HSL := h_ hsl
        have hq : (((q + 2 : Nat) : Int) - 2) = q := by omega
        have hq1 : q + 2 - 1 = q + 1 := by omega
        rw [hq, hq1]
        cases hs2 : g0j s q
        all_goals
         rw [hs2] at hsl HCS
         have hfq : (f : Int) ≤ q := by omega
         simp only [if_true, Bool.false_eq_true, if_false] at HCS
         have HF := h_ hsl
         go_wp2_with fail
         go_round
         case rel => exact ⟨q + 1, by omega, by omega, by omega, by go_num, by first | (rw [show q + 1 - 1 = q from by omega, HCS.out])⟩
         case measure => simp [intOf]; omega
       ·have HCE := h_ (t0u (s := s) hfj (by omega) hjf hjk)
        have hlo : (j : Int) - 2 < f := by omega
        rw [HCE.out]
        have HCB := h_ (k0h s f k hfk)
        obtain ⟨c, hc⟩ : ∃ c, c = cutF s f k := ⟨_, rfl⟩
        have HC := h_ hc.symm
        rw [← hc] at HCB ⊢
        clear hc HCE
        obtain ⟨hfc, hck⟩ := HCB.out
        have HFK := h_ hfk
        clear HCB hj hjf
        have HH0 := h_ (show scan (e0s s) c f = b0j s f k from by unfold b0j; rw [HC.out])
        go_wp2_with fail
        go_loop [8] (fun v => ∃ a : Nat, f ≤ a ∧ a ≤ c ∧ v = .int .i64 a ∧ scan (e0s s) c a = b0j s f k) (fun v => c - (intOf v).toNat)
        case atStart => exact ⟨f, Nat.le_refl _, hfc, rfl, HH0.out⟩
        case round =>
         obtain ⟨a, hfa, hac, rfl, hsc⟩ := hrel
         have HS := h_ hsc
         clear hsc HH0
         by_cases hlt : a < c
         ·have has : a < s.size := by omega
          have HQ := h_ (h0c has)
          cases hb : b0d (s[a].toNat : Int)
          ·have HA := h_ (show b0j s f k = a from by rw [← HS.out]; exact e0r hlt (by unfold e0s; rw [HQ.out, hb]; rfl))
           clear HS
           go_wp2_with (go_at_call 54; refine (e0d _ _).mono ?_; rintro e w' ⟨rfl, rfl⟩)
           have HK0 := h_ (show back (fun k => b0d (bt s k)) a c = b0e s f k from by unfold b0e; rw [HA.out, HC.out])
           go_loop [6] (fun v => ∃ e : Nat, a ≤ e ∧ e ≤ c ∧ v = .int .i64 e ∧ back (fun k => b0d (bt s k)) a e = b0e s f k) (fun v => (intOf v).toNat)
           case atStart => exact ⟨c, hac, Nat.le_refl _, rfl, HK0.out⟩
           case round =>
            obtain ⟨e, hae, hec, rfl, hbk⟩ := hrel
            have HK := h_ hbk
            clear hbk HK0
            by_cases hlt : a < e
            ·obtain ⟨q, rfl⟩ : ∃ q, e = q + 1 := ⟨e - 1, by omega⟩
             have hqs : q < s.size := by omega
             have hlt' : (a : Int) < (q : Int) + 1 := by omega
             have HQ := h_ (h0c hqs)
             cases hb : b0d (s[q].toNat : Int)
             ·have HT := h_ (show b0e s f k = q + 1 from by rw [← HK.out]; exact k0j hlt (by simp only [Nat.add_sub_cancel]; rw [HQ.out]; exact hb))
              clear HK
              have HIN := h_ (fun v' w' => n0e (v' := v') (w' := w') HI.out hle HST.out HFK.out (by rw [HA.out, HT.out]; omega))
              rw [HA.out, HT.out] at HIN
              obtain ⟨p, c, rfl, _⟩ := a0i HI.out.2.2.1
              have HO := h_ HI.out.2.2.1
              have HZ := h_ HI.out.2.2.2.size
              have hacc : acc.length ≤ s.size := by have := HI.out.1; omega
              clear HI
              go_wp2_with (first | (go_at_call 54; refine (e0d _ _).mono ?_; rintro e w' ⟨rfl, rfl⟩) | (at_builtin; refine m0g rfl _ _ 67 rfl w.heap.size 108 _ 2 24 e1m rfl (by decide) _ _ _ rfl HO.out [.string (s.extract a (q + 1)), .int .i64 a] rfl _ rfl (by simp) (by simp [Value.oneCell']) ?c1 ?c2 HZ.out ?_))
              case c1 => unfold maxLen; omega
              case c2 => omega
              intro v' w' ho' _ hb'
              have HIF := h_ (HIN.out v' w' ho' hb')
              clear ho' hb' HO HIN HZ
              go_wp2
              go_roundw
              case rel => exact ⟨k + 1, _, by omega, by go_num, HIF.out⟩
              case measure => simp [intOf]; omega
             ·have HK2 := h_ (show back (fun k => b0d (bt s k)) a q = b0e s f k from by rw [← HK.out]; exact (m0f hlt (by simp only [Nat.add_sub_cancel]; rw [HQ.out]; exact hb)).symm)
              clear HK
              go_wp2_with (go_at_call 54; refine (e0d _ _).mono ?_; rintro e w' ⟨rfl, rfl⟩)
              go_round
              case rel => exact ⟨q, by omega, by omega, by go_num, HK2.out⟩
              case measure => simp [intOf]
            ·obtain rfl : e = a := by omega
             have HT := h_ (show b0e s f k = e from by rw [← HK.out]; exact e0y (by omega))
             clear HK hlt
             have HIF := h_ (g0x HI.out hle HST.out HFK.out (by rw [HA.out, HT.out]; omega))
             clear HI
             go_wp2
             go_roundw
             case rel => exact ⟨k + 1, acc, by omega, by go_num, HIF.out⟩
             case measure => simp [intOf]; omega
          ·have HS2 := h_ (show scan (e0s s) c (a + 1) = b0j s f k from by rw [← HS.out]; exact (c0w hlt (by unfold e0s; rw [HQ.out, hb]; rfl)).symm)
           clear HS
           go_wp2_with (go_at_call 54; refine (e0d _ _).mono ?_; rintro e w' ⟨rfl, rfl⟩)
           go_round
           case rel => exact ⟨a + 1, by omega, by omega, by go_num, HS2.out⟩
           case measure => simp [intOf]; omega
         ·have hlt' : (c : Int) ≤ a := by omega
          have HA := h_ (show b0j s f k = a from by rw [← HS.out]; exact c0g (by omega))
          clear HS hlt
          go_wp2_with (go_at_call 54; refine (e0d _ _).mono ?_; rintro e w' ⟨rfl, rfl⟩)
          have HK0 := h_ (show back (fun k => b0d (bt s k)) a c = b0e s f k from by unfold b0e; rw [HA.out, HC.out])
          go_loop [6] (fun v => ∃ e : Nat, a ≤ e ∧ e ≤ c ∧ v = .int .i64 e ∧ back (fun k => b0d (bt s k)) a e = b0e s f k) (fun v => (intOf v).toNat)
          case atStart => exact ⟨c, hac, Nat.le_refl _, rfl, HK0.out⟩
          case round =>
           obtain ⟨e, hae, hec, rfl, hbk⟩ := hrel
           have HK := h_ hbk
           clear hbk HK0
           by_cases hlt : a < e
           ·exfalso; omega
           ·obtain rfl : e = a := by omega
            have HT := h_ (show b0e s f k = e from by rw [← HK.out]; exact e0y (by omega))
            clear HK hlt
            have HIF := h_ (g0x HI.out hle HST.out HFK.out (by rw [HA.out, HT.out]; omega))
            clear HI
            go_wp2
            go_roundw
            case rel => exact ⟨k + 1, acc, by omega, by go_num, HIF.out⟩
            case measure => simp [intOf]; omega
    ·have hlt' : (s.size : Int) ≤ k := by omega
     have HST := h_ (show scan (nlB s) s.size f = k from HS.out.symm.trans ((c0g hlt)))
     clear HS hlt
     go_wp2_with fail
     go_loop [6, 7] (fun e i => ∃ j : Nat, j ≤ k ∧ (j = k ∨ f + 1 ≤ j) ∧ f ≤ j ∧ i = .int .i64 ((j : Int) - 2) ∧ e = .int .i64 (cutF s (j - 1) k : Nat)) (fun _ i => (intOf i + 2).toNat)
     case atStart => exact ⟨k, Nat.le_refl _, .inl rfl, hfk, by go_num, by rw [r0t]⟩
     case round =>
      obtain ⟨j, hjk, hjf, hfj, rfl, rfl⟩ := hrel
      by_cases hj : f + 2 ≤ j
      ·obtain ⟨q, rfl⟩ : ∃ q, j = q + 2 := ⟨j - 2, by omega⟩
       have HCS := h_ (t0t (s := s) (j := q) (t := k) (by omega))
       have hsl := o0m (s := s) (k := q) (by omega)
       have HSL := h_ hsl
       have hq : (((q + 2 : Nat) : Int) - 2) = q := by omega
       have hq1 : q + 2 - 1 = q + 1 := by omega
       rw [hq, hq1]
       cases hs2 : g0j s q
       all_goals
        rw [hs2] at hsl HCS
        have hfq : (f : Int) ≤ q := by omega
        simp only [if_true, Bool.false_eq_true, if_false] at HCS
        have HF := h_ hsl
        go_wp2_with fail
        go_round
        case rel => exact ⟨q + 1, by omega, by omega, by omega, by go_num, by first | (rw [show q + 1 - 1 = q from by omega, HCS.out])⟩
        case measure => simp [intOf]; omega
      ·have HCE := h_ (t0u (s := s) hfj (by omega) hjf hjk)
       have hlo : (j : Int) - 2 < f := by omega
       rw [HCE.out]
       have HCB := h_ (k0h s f k hfk)
       obtain ⟨c, hc⟩ : ∃ c, c = cutF s f k := ⟨_, rfl⟩
       have HC := h_ hc.symm
       rw [← hc] at HCB ⊢
       clear hc HCE
       obtain ⟨hfc, hck⟩ := HCB.out
       have HFK := h_ hfk
       clear HCB hj hjf
       have HH0 := h_ (show scan (e0s s) c f = b0j s f k from by unfold b0j; rw [HC.out])
       go_wp2_with fail
       go_loop [8] (fun v => ∃ a : Nat, f ≤ a ∧ a ≤ c ∧ v = .int .i64 a ∧ scan (e0s s) c a = b0j s f k) (fun v => c - (intOf v).toNat)
       case atStart => exact ⟨f, Nat.le_refl _, hfc, rfl, HH0.out⟩
       case round =>
        obtain ⟨a, hfa, hac, rfl, hsc⟩ := hrel
        have HS := h_ hsc
        clear hsc HH0
        by_cases hlt : a < c
        ·have has : a < s.size := by omega
         have HQ := h_ (h0c has)
         cases hb : b0d (s[a].toNat : Int)
         ·have HA := h_ (show b0j s f k = a from by rw [← HS.out]; exact e0r hlt (by unfold e0s; rw [HQ.out, hb]; rfl))
          clear HS
          go_wp2_with (go_at_call 54; refine (e0d _ _).mono ?_; rintro e w' ⟨rfl, rfl⟩)
          have HK0 := h_ (show back (fun k => b0d (bt s k)) a c = b0e s f k from by unfold b0e; rw [HA.out, HC.out])
          go_loop [6] (fun v => ∃ e : Nat, a ≤ e ∧ e ≤ c ∧ v = .int .i64 e ∧ back (fun k => b0d (bt s k)) a e = b0e s f k) (fun v => (intOf v).toNat)
          case atStart => exact ⟨c, hac, Nat.le_refl _, rfl, HK0.out⟩
          case round =>
           obtain ⟨e, hae, hec, rfl, hbk⟩ := hrel
           have HK := h_ hbk
           clear hbk HK0
           by_cases hlt : a < e
           ·obtain ⟨q, rfl⟩ : ∃ q, e = q + 1 := ⟨e - 1, by omega⟩
            have hqs : q < s.size := by omega
            have hlt' : (a : Int) < (q : Int) + 1 := by omega
            have HQ := h_ (h0c hqs)
            cases hb : b0d (s[q].toNat : Int)
            ·have HT := h_ (show b0e s f k = q + 1 from by rw [← HK.out]; exact k0j hlt (by simp only [Nat.add_sub_cancel]; rw [HQ.out]; exact hb))
             clear HK
             have HIN := h_ (fun v' w' => n0e (v' := v') (w' := w') HI.out hle HST.out HFK.out (by rw [HA.out, HT.out]; omega))
             rw [HA.out, HT.out] at HIN
             obtain ⟨p, c, rfl, _⟩ := a0i HI.out.2.2.1
             have HO := h_ HI.out.2.2.1
             have HZ := h_ HI.out.2.2.2.size
             have hacc : acc.length ≤ s.size := by have := HI.out.1; omega
             clear HI
             go_wp2_with (first | (go_at_call 54; refine (e0d _ _).mono ?_; rintro e w' ⟨rfl, rfl⟩) | (at_builtin; refine m0g rfl _ _ 67 rfl w.heap.size 108 _ 2 24 e1m rfl (by decide) _ _ _ rfl HO.out [.string (s.extract a (q + 1)), .int .i64 a] rfl _ rfl (by simp) (by simp [Value.oneCell']) ?c1 ?c2 HZ.out ?_))
             case c1 => unfold maxLen; omega
             case c2 => omega
             intro v' w' ho' _ hb'
             have HIF := h_ (HIN.out v' w' ho' hb')
             clear ho' hb' HO HIN HZ
             go_wp2
             go_roundw
             case rel => exact ⟨k + 1, _, by omega, by go_num, HIF.out⟩
             case measure => simp [intOf]; omega
            ·have HK2 := h_ (show back (fun k => b0d (bt s k)) a q = b0e s f k from by rw [← HK.out]; exact (m0f hlt (by simp only [Nat.add_sub_cancel]; rw [HQ.out]; exact hb)).symm)
             clear HK
             go_wp2_with (go_at_call 54; refine (e0d _ _).mono ?_; rintro e w' ⟨rfl, rfl⟩)
             go_round
             case rel => exact ⟨q, by omega, by omega, by go_num, HK2.out⟩
             case measure => simp [intOf]
           ·obtain rfl : e = a := by omega
            have HT := h_ (show b0e s f k = e from by rw [← HK.out]; exact e0y (by omega))
            clear HK hlt
            have HIF := h_ (g0x HI.out hle HST.out HFK.out (by rw [HA.out, HT.out]; omega))
            clear HI
            go_wp2
            go_roundw
            case rel => exact ⟨k + 1, acc, by omega, by go_num, HIF.out⟩
            case measure => simp [intOf]; omega
         ·have HS2 := h_ (show scan (e0s s) c (a + 1) = b0j s f k from by rw [← HS.out]; exact (c0w hlt (by unfold e0s; rw [HQ.out, hb]; rfl)).symm)
          clear HS
          go_wp2_with (go_at_call 54; refine (e0d _ _).mono ?_; rintro e w' ⟨rfl, rfl⟩)
          go_round
          case rel => exact ⟨a + 1, by omega, by omega, by go_num, HS2.out⟩
          case measure => simp [intOf]; omega
        ·have hlt' : (c : Int) ≤ a := by omega
         have HA := h_ (show b0j s f k = a from by rw [← HS.out]; exact c0g (by omega))
         clear HS hlt
         go_wp2_with (go_at_call 54; refine (e0d _ _).mono ?_; rintro e w' ⟨rfl, rfl⟩)
         have HK0 := h_ (show back (fun k => b0d (bt s k)) a c = b0e s f k from by unfold b0e; rw [HA.out, HC.out])
         go_loop [6] (fun v => ∃ e : Nat, a ≤ e ∧ e ≤ c ∧ v = .int .i64 e ∧ back (fun k => b0d (bt s k)) a e = b0e s f k) (fun v => (intOf v).toNat)
         case atStart => exact ⟨c, hac, Nat.le_refl _, rfl, HK0.out⟩
         case round =>
          obtain ⟨e, hae, hec, rfl, hbk⟩ := hrel
          have HK := h_ hbk
          clear hbk HK0
          by_cases hlt : a < e
          ·exfalso; omega
          ·obtain rfl : e = a := by omega
           have HT := h_ (show b0e s f k = e from by rw [← HK.out]; exact e0y (by omega))
           clear HK hlt
           have HIF := h_ (g0x HI.out hle HST.out HFK.out (by rw [HA.out, HT.out]; omega))
           clear HI
           go_wp2
           go_roundw
           case rel => exact ⟨k + 1, acc, by omega, by go_num, HIF.out⟩
           case measure => simp [intOf]; omega
  ·have hlt' : (s.size : Int) < f := by omega
   have HF := h_ (show wo.ownsRow w.heap.size 108 2 u3 (e0t s 0 []).length (d0u s (e0t s 0 [])) ∧ Below w.heap.size w wo from by
    obtain ⟨h2, h4, h5, h6⟩ := HI.out
    rw [i0q hle] at h4; rw [← h4]; exact ⟨h5, h6⟩)
   clear HI hle
   go_wp2
   go_ret
   exact ⟨_, rfl, HF.out.1, HF.out.2⟩
end
section
open Go.RowKit
theorem y0x (a0 : ByteArray) (w : World) (w0 : a0.size ≤ maxLen) :
  Calls Tryz.prog 8 #[.string a0] w fun e w' => ∃ b, e = .returned (.bool b) ∧ (b = true → (e0t a0 0 []).length ≤ 60) ∧ Below w.heap.size w w' := by
 by_cases hs : a0.size ≤ 1500
 ·have HR := h_ (c1g a0 w (by omega) (by omega))
  have hsb : decide ((a0.size : Int) ≤ 1500) = true := decide_eq_true (by omega)
  clear hs w0
  go_enter Tryz.func8, Tryz.ntmps8
  go_wp2_with fail
  refine (HR.out).mono ?_
  rintro e w2 ⟨v, rfl, ho, hb⟩
  obtain ⟨p, c, rfl, _⟩ := a0i ho
  have HB := h_ hb
  have HL := h_ (show decide (((e0t a0 0 []).length : Int) ≤ 60) = true → (e0t a0 0 []).length ≤ 60 from fun h => by have := of_decide_eq_true h; omega)
  clear ho hb HR
  go_wp2_with fail
  go_ret
  exact ⟨_, rfl, HL.out, HB.out⟩
 ·have hsb : decide ((a0.size : Int) ≤ 1500) = false := decide_eq_false (by omega)
  clear hs w0
  go_enter Tryz.func8, Tryz.ntmps8
  go_wp2_with fail
  go_ret
  exact ⟨_, rfl, fun h => by simp at h, Below.refl _ _⟩
end
end Go.Proofs.YtmnojnopejhebaaGreat
