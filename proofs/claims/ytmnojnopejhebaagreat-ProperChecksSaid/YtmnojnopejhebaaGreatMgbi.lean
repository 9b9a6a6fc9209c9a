/- The page's example is read, printed and weighed. -/
import Derived.Test.YtmnojnopejhebaaGreatMgbb
import Derived.Test.YtmnojnopejhebaaGreatMgbh
namespace Go.Proofs.YtmnojnopejhebaaGreat
set_option linter.unusedVariables false
set_option linter.unusedSimpArgs false
set_option maxRecDepth 100000
set_option maxHeartbeats 25600000
section
open Go.RowKit
theorem t0d (s : ByteArray) : ∀ (l : List (Nat × Nat)) (x : SrcA) (n : Nat), Inv x n → (g0b s x l).2.1 = 0 → Inv (g0b s x l).1 (n + l.length)
 | [], x, n, h, h0 => by
  rw [g0b] at h0 ⊢
  split at h0
  ·rename_i h4; rw [if_pos h4]; exact h
  ·exact absurd h0 (by show ¬ (110 : Int) = 0; decide)
 | r :: l, x, n, h, h0 => by
  rw [g0b] at h0 ⊢
  try dsimp only at h0 ⊢
  split at h0
  ·rename_i hc
   rw [if_pos hc]
   have k := t0d s l _ (n + 1) (x0j h _ _) h0
   rw [List.length_cons, show n + (l.length + 1) = n + 1 + l.length by omega]
   exact k
  ·rename_i hc; exact absurd h0 hc
theorem n1h {s : ByteArray} (h : (litA s).2.1 = 0) : Inv (litA s).1 (h0j s 0 []).length := by
 obtain ⟨_, hL⟩ := v0y h
 rw [hL] at h ⊢
 have := t0d s _ src0 0 inv0 h
 rwa [Nat.zero_add] at this
theorem l0m (h : Bool) : ∀ (l : List Ins) (i : Nat), (c0s h i l).2 = 0 → k0s l
 | [], _, _ => fun i hi => absurd hi (by simp)
 | x :: l, i, h0 => by
  unfold c0s at h0
  split at h0
  ·rename_i hx
   have ih := l0m h l (i + 1) h0
   intro j hj
   rcases List.mem_cons.1 hj with e | hj
   ·rw [e]
    unfold insE at hx
    by_cases hr : b0e x.op x.d x.n x.m x.imm x.kind
    ·exact hr
    ·rw [if_pos hr] at hx; exact absurd hx (by decide)
   ·exact ih j hj
  ·rename_i hx; exact absurd h0 hx
theorem k1j {t : List Nat} {c : GCore} {a : Int} {p : List Int} (h : (d0p t c a p).1 = 0) : k0s c.code ∧ k0s c.hand := by
 unfold d0p at h
 split at h
 ·exact absurd h (by show ¬ (133 : Int) = 0; decide)
 split at h
 ·exact absurd h (by show ¬ (131 : Int) = 0; decide)
 split at h
 ·exact absurd h (by show ¬ (1 : Int) = 0; decide)
 split at h
 ·exact absurd h (by show ¬ (136 : Int) = 0; decide)
 split at h
 ·exact absurd h (by show ¬ (136 : Int) = 0; decide)
 split at h
 ·rename_i h6; exact absurd h h6
 rename_i h6
 split at h
 ·rename_i h7; exact absurd h h7
 rename_i h7
 exact ⟨l0m _ _ _ (Decidable.not_not.1 h6), l0m _ _ _ (Decidable.not_not.1 h7)⟩
theorem u0h (x : GSrc) : ∀ (l : List GCore) (i : Nat), (e0q x i l).1 = 0 → ∀ c ∈ l, k0s c.code ∧ k0s c.hand
 | [], _, _ => fun c hc => absurd hc (by simp)
 | c :: l, i, h => by
  unfold e0q at h
  dsimp only at h
  split at h
  ·rename_i h0
   intro d hd
   rcases List.mem_cons.1 hd with e | hd
   ·rw [e]; exact k1j h0
   ·exact u0h x l (i + 1) h d hd
  ·rename_i h0; exact absurd h h0
theorem k1n {x : GSrc} (h : (b0y x).1 = 0) : (x.cores.length ≤ 4 ∧ 0 < x.cores.length) ∧ (∀ c ∈ x.cores, k0s c.code ∧ k0s c.hand) ∧ g0w (x.cores.length : Nat) x.cond = 0 := by
 unfold b0y at h
 dsimp only at h
 split at h
 ·rename_i q; exact absurd h q
 split at h
 ·exact absurd h (by show ¬ (2 : Int) = 0; decide)
 split at h
 ·rename_i q; exact absurd h q
 split at h
 ·exact absurd h (by show ¬ (135 : Int) = 0; decide)
 rename_i q4
 split at h
 ·rename_i q; exact absurd h q
 rename_i q5
 split at h
 ·exact absurd h (by show ¬ (137 : Int) = 0; decide)
 split at h
 ·rename_i q; exact absurd h q
 rename_i q7
 exact ⟨by omega, u0h x x.cores 0 (Decidable.not_not.1 q5), Decidable.not_not.1 q7⟩
theorem h1h : ∀ (t : CT) {n : Int}, n ≤ 4 → a0w n t = 0 → a0w 4 t = 0 := by
 intro t n hn
 refine CT.ind (P := fun t => a0w n t = 0 → a0w 4 t = 0) ?_ t
 intro k c r a v args ih h
 obtain ⟨h0, ha⟩ := l1m h
 obtain ⟨q1, q2, q3, q4⟩ := head0 h0
 have e : c0i k c r 4 args.length = 0 := by
  unfold c0i
  rw [if_neg (by intro e; rcases e with e | e | e | e <;> omega), if_neg (by intro e; have := q4 e.1; omega)]
 rw [a0w, if_pos e]
 have key : ∀ l : List CT, (∀ u ∈ l, a0w 4 u = 0) → b0p 4 l = 0 := by
  intro l
  induction l with
  | nil => intro _; rfl
  | cons u l il => intro hu; rw [b0p, if_pos (hu u (by simp))]; exact il (fun w hw => hu w (by simp [hw]))
 exact key args (fun u hu => ih u hu (ha u hu))
theorem m1e {s : ByteArray} (h : (litA s).2.1 = 0) (hc : (b0y (gsrc (litA s).1)).1 = 0) : TestOK (litA s).1 := by
 obtain ⟨hm, h4⟩ := r0z h
 have hi := n1h h
 obtain ⟨⟨q1, _⟩, q2, q3⟩ := k1n hc
 generalize (litA s).1 = x at *
 have hlen : (gsrc x).cores.length = x.cores.length := by simp [gsrc]
 rw [hlen] at q1 q3
 have hcount : a0k x.cond ≤ 64 ∧ a0w (x.cores.length : Nat) x.cond = 0 := by
  have q3' : g0w (x.cores.length : Nat) x.cond = 0 := q3
  unfold g0w at q3'
  split at q3'
  ·exact absurd q3' (by decide)
  ·rename_i e; exact ⟨by omega, q3'⟩
 refine ⟨hm.name.resolve_left (by omega), hm.tables, hm.cells, by omega, fun c hcm => ?_, rt_of _ hm.cond.1 (h1h _ (by omega) hcount.2), hcount.1⟩
 have hg := q2 (l0d c) (by show l0d c ∈ x.cores.map l0d; exact List.mem_map_of_mem hcm)
 have hcc := hm.cores c hcm
 exact ⟨(hi.1.code c hcm).2.2, hcc.1, hcc.2.1, hcc.2.2, hg.1, hg.2⟩
theorem d0s {p : Pc} (h : pcOK p) : p.2.length ≤ 24 := by
 rcases h with h | h | h | h
 ·rw [h.2]; decide
 ·have key : ∀ b ∈ signL, b.length ≤ 24 := by decide
  exact key _ h.2
 ·exact h.2.2.1
 ·exact h.2.2.1
theorem r0r {n : Int} (h0 : 0 ≤ n) (h1 : n ≤ 31) : (regL n).length ≤ 24 := by
 by_cases e : n = 31
 ·rw [e]; decide
 ·exact d0s (l1n (r := n) ⟨h0, by omega⟩)
theorem f1i {n : Int} (h0 : -1000000000000 < n) (h1 : n < 1000000000000) : (intL n).length ≤ 13 := by
 unfold intL; split
 ·have := o0r 10 (by decide) 11 (-n).toNat (by omega)
  simp; omega
 ·have := o0r 10 (by decide) 11 n.toNat (by omega)
  omega
theorem g1r {op d n m imm kind : Int} (h : b0e op d n m imm kind) : (e0z op d n m imm kind).length ≤ 120 := by
 obtain ⟨⟨hop, ⟨hd0, hd1⟩, ⟨hn0, hn1⟩, ⟨hm0, hm1⟩⟩, hB, hC, hD⟩ := h
 have hmem : op ∈ ([1, 2, 3, 4, 5, 6, 7, 8, 9, 10, 11, 12, 13, 14, 15, 16, 17, 18, 19, 20, 21, 22, 23] : List Int) := by
  simp only [List.mem_cons, List.not_mem_nil, or_false]; omega
 have hname : ∀ op ∈ ([1, 2, 3, 4, 5, 6, 7, 8, 9, 10, 11, 12, 13, 14, 15, 16, 17, 18, 19, 20, 21, 22, 23] : List Int), (f0d op).length ≤ 8 := by decide +kernel
 have N0 := hname op hmem
 have D := r0r hd0 hd1
 have N := r0r hn0 hn1
 have M := r0r hm0 hm1
 have hflush : (g0u kind).length ≤ 9 := by unfold g0u; repeat' split
                                           all_goals decide
 have hbar : (barL kind).length ≤ 9 := by unfold barL; repeat' split
                                          all_goals decide
 have hsys : (sysL kind).length ≤ 9 := by unfold sysL; repeat' split
                                          all_goals decide
 unfold c0m at hC
 have himm : (op = 2 ∨ op = 3 ∨ op = 6 ∨ op = 7 ∨ op = 14 ∨ op = 15 ∨ op = 16 ∨ op = 17) → (intL imm).length ≤ 13 := fun e => f1i (by omega) (by omega)
 have himm2 : op = 6 → (intL (16 * kind)).length ≤ 13 := fun e => f1i (by omega) (by omega)
 have htgt : (op = 14 ∨ op = 15 ∨ op = 16 ∨ op = 17) → (a0o imm).length ≤ 15 := fun e => by
  have := himm (by omega)
  unfold a0o; split <;> simp <;> omega
 unfold e0z
 by_cases e : op = 1 ∨ op = 20 ∨ op = 22
 ·rw [if_pos e]; omega
 rw [if_neg e]
 by_cases e : (op = 2 ∨ op = 3) ∧ ¬ imm = 0
 ·rw [if_pos e]; have := himm (by omega); unfold immL; simp; omega
 rw [if_neg e]
 by_cases e : op = 2 ∨ op = 3 ∨ op = 4 ∨ op = 5
 ·rw [if_pos e]; simp; omega
 rw [if_neg e]
 by_cases e : op = 6
 ·rw [if_pos e]
  have a1 := himm (by omega)
  have a2 := himm2 e
  by_cases e2 : kind = 0
  ·rw [if_pos e2]; unfold immL; simp; omega
  ·rw [if_neg e2]; unfold immL; simp; omega
 rw [if_neg e]
 by_cases e : op = 7
 ·rw [if_pos e]; have := himm (by omega); unfold immL; simp; omega
 rw [if_neg e]
 by_cases e : op = 14
 ·rw [if_pos e]; have := htgt (by omega); simp; omega
 rw [if_neg e]
 by_cases e : op = 15 ∨ op = 16
 ·rw [if_pos e]; have := htgt (by omega); simp; omega
 rw [if_neg e]
 by_cases e : op = 17
 ·rw [if_pos e]
  have := htgt (by omega)
  by_cases e2 : kind = 0
  ·rw [if_pos e2]; simp; omega
  ·rw [if_neg e2]; simp; omega
 rw [if_neg e]
 by_cases e : op = 18
 ·rw [if_pos e]; simp; omega
 rw [if_neg e]
 by_cases e : op = 19
 ·rw [if_pos e]; simp; omega
 rw [if_neg e]
 by_cases e : op = 21
 ·rw [if_pos e]
  by_cases e2 : kind % 4 = 0
  ·rw [if_pos e2]; simp; omega
  ·rw [if_neg e2]; simp; omega
 rw [if_neg e]
 by_cases e : op = 23
 ·rw [if_pos e]; simp; omega
 rw [if_neg e]
 by_cases e : op = 13 ∧ d = 31
 ·rw [if_pos e]; simp; omega
 rw [if_neg e]
 unfold n0f; simp; omega
theorem f1l {i : Ins} (h : b0e i.op i.d i.n i.m i.imm i.kind) : (insT i).length ≤ 120 := by rw [n1o h]; exact g1r h
theorem k1k {t : CT} (h : RT t) : (a0m t).length + 2 ≤ 80 * a0k t := by
 induction h with
 | reg c r a v hc hr hv =>
  have e : a0m (.mk 1 c r a v []) = intL c ++ ([58] ++ (regL r ++ ([61] ++ hexL v))) := by simp [a0m, v0v, n0r]
  have a1 := d0s (e1g hc)
  have a2 := d0s (l1n hr)
  have a3 := d0s (l0x v hv)
  rw [e, a0k, b0i]; simp at a1 a2 a3 ⊢; omega
 | cell c r a v ha hv =>
  have e : a0m (.mk 2 c r a v []) = [91] ++ (hexL a ++ ([93, 61] ++ hexL v)) := by simp [a0m, v0v, n0r]
  have a1 := d0s (l0x a ha)
  have a3 := d0s (l0x v hv)
  rw [e, a0k, b0i]; simp at a1 a3 ⊢; omega
 | flt c r a v hc hv =>
  have e : a0m (.mk 3 c r a v []) = [102, 97, 117, 108, 116, 115, 32] ++ (intL c ++ ([61] ++ hexL v)) := by simp [a0m, v0v, n0r]
  have a1 := d0s (e1g hc)
  have a3 := d0s (l0x v hv)
  rw [e, a0k, b0i]; simp at a1 a3 ⊢; omega
 | tru c r a v =>
  have e : a0m (.mk 7 c r a v []) = [116, 114, 117, 101] := by simp [a0m, v0v, n0r]
  rw [e, a0k, b0i]; simp
 | not c r a v hx ih =>
  rename_i x
  rw [a0m, f0g, f0g, a0k, b0i, b0i]
  show ([126] ++ e0o 3 (c0f x, a0m x)).length + 2 ≤ _
  have := c0g 3 (c0f x, a0m x)
  simp at this ⊢; omega
 | and c r a v hx hy ihx ihy =>
  rename_i x y
  rw [a0m, f0g, f0g, f0g, a0k, b0i, b0i, b0i]
  show (e0o 2 (c0f x, a0m x) ++ [32, 47, 92, 32] ++ e0o 3 (c0f y, a0m y)).length + 2 ≤ _
  have a1 := c0g 2 (c0f x, a0m x)
  have a2 := c0g 3 (c0f y, a0m y)
  simp at a1 a2 ⊢; omega
 | or c r a v hx hy ihx ihy =>
  rename_i x y
  rw [a0m, f0g, f0g, f0g, a0k, b0i, b0i, b0i]
  show (e0o 1 (c0f x, a0m x) ++ [32, 92, 47, 32] ++ e0o 2 (c0f y, a0m y)).length + 2 ≤ _
  have a1 := c0g 1 (c0f x, a0m x)
  have a2 := c0g 2 (c0f y, a0m y)
  simp at a1 a2 ⊢; omega
theorem t0i : ∀ (rs : List Nat) (k : Nat), k + rs.length ≤ 31 → (∀ v ∈ rs, v < W64) → ∀ l ∈ a0t rs k, l.length ≤ 120
 | [], _, _, _, l, hl => by simp [a0t] at hl
 | v :: rs, k, hk, hv, l, hl => by
  have hk' : k + (rs.length + 1) ≤ 31 := by simpa using hk
  unfold a0t at hl
  rcases List.mem_append.1 hl with hl | hl
  ·by_cases h0 : v = 0
   ·rw [if_pos h0] at hl; simp at hl
   ·rw [if_neg h0] at hl
    have e : l = flat ((1, p0i) :: z0l k v) := by simpa using hl
    have e2 : flat ((1, p0i) :: z0l k v) = p0i ++ ([32] ++ (regL (k : Nat) ++ ([32, 61, 32] ++ hexL v))) := by simp [flat, z0l]
    have a1 := r0r (n := (k : Nat)) (by omega) (by omega)
    have a2 := d0s (l0x v (hv v (by simp)))
    rw [e, e2]; simp [p0i] at a2 ⊢; omega
  ·exact t0i rs (k + 1) (by omega) (fun u hu => hv u (by simp [hu])) l hl
theorem f1w {i : Nat} (hi : i < 65536) {c : CoreA} (hc : CoreOK c) : ∀ l ∈ d0u i c, l.length ≤ 120 := by
 intro l hl
 unfold d0u at hl
 rcases List.mem_cons.1 hl with e | hl
 ·rw [e]
  have a1 := d0s (l1o i hi).1
  have a2 := d0s (l1o c.space hc.space).1
  have a3 := d0s (l0x c.table hc.table)
  unfold n0j
  by_cases h0 : c.space = 0
  ·rw [if_pos h0]; simp [flat, h0w, a0s] at a1 a3 ⊢; omega
  ·rw [if_neg h0]; simp [flat, h0w, a0s, m0t] at a1 a2 a3 ⊢; omega
 ·rcases List.mem_append.1 hl with hl | hl
  ·exact t0i c.regs 0 (by rw [hc.len]; omega) hc.regs l hl
  ·rcases List.mem_append.1 hl with hl | hl
   ·obtain ⟨i, hi, rfl⟩ := List.mem_map.1 hl
    exact f1l (hc.code i hi)
   ·unfold m0c at hl
    split at hl
    ·simp at hl
    ·rcases List.mem_cons.1 hl with e | hl
     ·rw [e]; decide
     ·obtain ⟨i, hi, rfl⟩ := List.mem_map.1 hl
      exact f1l (hc.hand i hi)
theorem r0a : ∀ (cs : List CoreA) (i : Nat), i + cs.length < 65536 → (∀ c ∈ cs, CoreOK c) → ∀ l ∈ a0n i cs, l.length ≤ 120
 | [], _, _, _, l, hl => by simp [a0n] at hl
 | c :: cs, i, hi, h, l, hl => by
  have hi' : i + (cs.length + 1) < 65536 := by simpa using hi
  unfold a0n at hl
  rcases List.mem_append.1 hl with hl | hl
  ·exact f1w (by omega) (h c (by simp)) l hl
  ·exact r0a cs (i + 1) (by omega) (fun d hd => h d (by simp [hd])) l hl
theorem x0y : ∀ (ls : List (List UInt8)), (∀ l ∈ ls, l.length ≤ 120) → (ls.flatMap fun l => l ++ [10]).length ≤ ls.length * 121
 | [], _ => by simp
 | l :: ls, h => by
  have ih := x0y ls (fun k hk => h k (by simp [hk]))
  have := h l (by simp)
  rw [List.flatMap_cons, List.length_append, List.length_append]
  show l.length + 1 + _ ≤ (ls.length + 1) * 121
  omega
theorem c1h {x : SrcA} (h : TestOK x) (hw : srcW x ≤ 60) : (q0d x).length ≤ 16384 := by
 have e : h0s x = (flat ((1, k0b) :: l0v x.name.data.toList) :: (x.tables.map (fun v => flat ((1, a0s) :: b0l v)) ++ (x.cells.map (fun p => flat ((1, c0v) :: d0j p.1 p.2)) ++ a0n 0 x.cores))) ++ [i0o x.fa x.cond] := by
  unfold h0s; simp
 have hl := r0t x
 rw [e, List.length_append, List.length_singleton] at hl
 have hc := k1k h.cond
 have hcl : (i0o x.fa x.cond).length ≤ 5200 := by
  have := h.count
  unfold i0o
  cases x.fa <;> simp [j0o, j0p] <;> omega
 unfold q0d
 rw [e, List.flatMap_append, List.length_append]
 have hA := x0y (flat ((1, k0b) :: l0v x.name.data.toList) :: (x.tables.map (fun v => flat ((1, a0s) :: b0l v)) ++ (x.cells.map (fun p => flat ((1, c0v) :: d0j p.1 p.2)) ++ a0n 0 x.cores))) (by
  intro l hl
  rcases List.mem_cons.1 hl with e | hl
  ·have a1 := d0s h.name
   rw [e]; simp [flat, l0v, k0b] at a1 ⊢; omega
  rcases List.mem_append.1 hl with hl | hl
  ·obtain ⟨v, hv, rfl⟩ := List.mem_map.1 hl
   have a1 := d0s (l0x v (h.tables v hv))
   simp [flat, b0l, a0s] at a1 ⊢; omega
  rcases List.mem_append.1 hl with hl | hl
  ·obtain ⟨p, hv, rfl⟩ := List.mem_map.1 hl
   have a1 := d0s (l0x p.1 (h.cells p hv).1)
   have a2 := d0s (l0x p.2 (h.cells p hv).2)
   simp [flat, d0j, c0v] at a1 a2 ⊢; omega
  ·exact r0a x.cores 0 (by have := h.len; omega) h.cores l hl)
 have e3 : (List.flatMap (fun l => l ++ [10]) [i0o x.fa x.cond]).length = (i0o x.fa x.cond).length + 1 := by simp
 rw [e3]
 omega
theorem pro_ok {s : ByteArray} (h : (f0c s).2.1 = 0) (hr : (h0j s 0 []).length ≤ 60) : TestOK (f0c s).1 ∧ (q0d (f0c s).1).length ≤ 16384 := by
 unfold f0c at h ⊢
 by_cases h1 : ¬ (litA s).2.1 = 0
 ·rw [if_pos h1] at h; exact absurd h h1
 rw [if_neg h1] at h ⊢
 by_cases h2 : ¬ (b0y (gsrc (litA s).1)).1 = 0
 ·rw [if_pos h2] at h; exact absurd h h2
 rw [if_neg h2]
 have h1' := Decidable.not_not.1 h1
 have hok := m1e h1' (Decidable.not_not.1 h2)
 obtain ⟨hm, h4⟩ := r0z h1'
 have hw := a1e h1'
 dsimp only
 generalize (litA s).1 = x at *
 exact ⟨hok, c1h hok (by omega)⟩
end
section
open Go.RowKit
def p0a : ByteArray := ⟨#[116, 101, 115, 116, 32, 97, 10, 116, 97, 98, 108, 101, 32, 48, 120, 49, 48, 48, 48, 10, 99, 101, 108, 108, 32, 48, 120, 49, 48, 48, 48, 32, 61, 32, 48, 120, 50, 48, 48, 51, 10, 99, 111, 114, 101, 32, 48, 32, 116, 97, 98, 108, 101, 32, 48, 120, 49, 48, 48, 48, 10, 114, 101, 103, 32, 88, 49, 32, 61, 32, 48, 120, 49, 48, 10, 76, 68, 82, 32, 88, 48, 44, 91, 88, 49, 93, 10, 101, 120, 105, 115, 116, 115, 32, 48, 58, 88, 48, 61, 48, 120, 49, 10]⟩
def l0w : ByteArray := ⟨#[116, 101, 115, 116, 32, 97, 10, 116, 97, 98, 108, 101, 32, 48, 120, 49, 48, 48, 48, 10, 99, 111, 114, 101, 32, 48, 32, 116, 97, 98, 108, 101, 32, 48, 120, 49, 48, 48, 48, 10, 66, 32, 46, 43, 48, 10, 101, 120, 105, 115, 116, 115, 32, 116, 114, 117, 101, 10]⟩
def d1z : Bool := decide ((f0c p0a).2.1 = 0) && decide (q0d (f0c p0a).1 = p0a.data.toList) && decide (b0m (gsrc (f0c p0a).1).cores.length (gsrc (f0c p0a).1).cores = 3) && decide ((f0c l0w).2.1 = 134) && decide ((h0j p0a 0 []).length ≤ 60)
theorem i1k : d1z = true := by kernel_rfl
theorem o1m : ∃ x cb, f0c p0a = (x, 0, cb) ∧ TestOK x ∧ (q0d x).length ≤ 16384 ∧ ba (q0d x) = p0a ∧ b0m (gsrc x).cores.length (gsrc x).cores = 3 ∧ ∃ db, f0c l0w = (src0, 134, db) := by
 have h := i1k
 unfold d1z at h
 simp only [Bool.and_eq_true, decide_eq_true_eq] at h
 obtain ⟨⟨⟨⟨h1, h2⟩, h3⟩, h4⟩, h5⟩ := h
 have hp := pro_ok h1 h5
 refine ⟨(f0c p0a).1, (f0c p0a).2.2, by rw [← h1], hp.1, hp.2, by rw [h2]; rfl, h3, (f0c l0w).2.2, ?_⟩
 have e : f0c l0w = ((f0c l0w).1, (f0c l0w).2.1, (f0c l0w).2.2) := rfl
 rw [e, h4]
 have e2 : (f0c l0w).1 = src0 := by
  have h4' := h4
  unfold f0c at h4' ⊢
  split
  ·rfl
  split
  ·rfl
  ·rename_i c1 c2; rw [if_neg c1, if_neg c2] at h4'; simp at h4'
 rw [e2]
theorem z0p (w : World) : Calls Tryz.prog 7 #[] w fun e w' => e = .returned (.bool true) ∧ Below w.heap.size w w' := by
 obtain ⟨x, cb, h1, hok, hlen, htx, hev, db, h2⟩ := o1m
 have HR1 := h_ (fun (w1 : World) => show Calls Tryz.prog 9 #[.string ⟨#[116, 101, 115, 116, 32, 97, 10, 116, 97, 98, 108, 101, 32, 48, 120, 49, 48, 48, 48, 10, 99, 101, 108, 108, 32, 48, 120, 49, 48, 48, 48, 32, 61, 32, 48, 120, 50, 48, 48, 51, 10, 99, 111, 114, 101, 32, 48, 32, 116, 97, 98, 108, 101, 32, 48, 120, 49, 48, 48, 48, 10, 114, 101, 103, 32, 88, 49, 32, 61, 32, 48, 120, 49, 48, 10, 76, 68, 82, 32, 88, 48, 44, 91, 88, 49, 93, 10, 101, 120, 105, 115, 116, 115, 32, 48, 58, 88, 48, 61, 48, 120, 49, 10]⟩] w1 (fun e w' => ∃ v', e = .returned (.tuple #[.agg (srcC x v').toArray, .agg #[.int .i64 0, .int .i64 cb]]) ∧ (srcC x v').toArray.all (·.oneCell') = true ∧ GRd w' (gsrc x) v' ∧ TestRd w' x v' ∧ Below w1.heap.size w1 w') from by
  have q := t0m p0a w1 (by decide)
  unfold f0j at q; rw [h1] at q; exact q)
 have HR2 := h_ (fun (w1 : World) => show Calls Tryz.prog 9 #[.string ⟨#[116, 101, 115, 116, 32, 97, 10, 116, 97, 98, 108, 101, 32, 48, 120, 49, 48, 48, 48, 10, 99, 111, 114, 101, 32, 48, 32, 116, 97, 98, 108, 101, 32, 48, 120, 49, 48, 48, 48, 10, 66, 32, 46, 43, 48, 10, 101, 120, 105, 115, 116, 115, 32, 116, 114, 117, 101, 10]⟩] w1 (fun e w' => ∃ v', e = .returned (.tuple #[.agg (srcC src0 v').toArray, .agg #[.int .i64 134, .int .i64 db]]) ∧ (srcC src0 v').toArray.all (·.oneCell') = true ∧ GRd w' (gsrc src0) v' ∧ TestRd w' src0 v' ∧ Below w1.heap.size w1 w') from by
  have q := t0m l0w w1 (by decide)
  unfold f0j at q; rw [h2] at q; exact q)
 have HPR := h_ (fun (w1 : World) (v : SrcV) (h : GRd w1 (gsrc x) v) => show Calls Tryz.prog 10 #[.agg [.string x.name, v.vC, v.vCo, .bool x.fa, v.k0, v.k1, v.k2, v.k3, v.k4, v.k5, v.vT, v.vPT, v.vPC, v.vPCo, v.vPI, .int .i64 x.pCond].toArray] w1 (fun e w' => e = .returned (.string ⟨#[116, 101, 115, 116, 32, 97, 10, 116, 97, 98, 108, 101, 32, 48, 120, 49, 48, 48, 48, 10, 99, 101, 108, 108, 32, 48, 120, 49, 48, 48, 48, 32, 61, 32, 48, 120, 50, 48, 48, 51, 10, 99, 111, 114, 101, 32, 48, 32, 116, 97, 98, 108, 101, 32, 48, 120, 49, 48, 48, 48, 10, 114, 101, 103, 32, 88, 49, 32, 61, 32, 48, 120, 49, 48, 10, 76, 68, 82, 32, 88, 48, 44, 91, 88, 49, 93, 10, 101, 120, 105, 115, 116, 115, 32, 48, 58, 88, 48, 61, 48, 120, 49, 10]⟩) ∧ Below w1.heap.size w1 w') from by
  have q := z0m w1 h hok hlen
  rw [htx] at q; exact q)
 have HEV := h_ (fun (w1 : World) (v : SrcV) (h : GRd w1 (gsrc x) v) => show Calls Tryz.prog 17 #[.agg [.string x.name, v.vC, v.vCo, .bool x.fa, v.k0, v.k1, v.k2, v.k3, v.k4, v.k5].toArray] w1 (fun e w' => e = .returned (.int .i64 3) ∧ Below w1.heap.size w1 w') from by
  have q := m0v w1 h
  rw [hev] at q; exact q)
 dsimp only [List.toArray] at HPR HEV
 clear h1 h2 hok hlen htx hev
 have HB0 := h_ (Below.refl w.heap.size w)
 go_enter Tryz.func7, Tryz.ntmps7
 go_wp2_with fail
 refine (HR1.out _).mono ?_
 rintro e w1 ⟨v1, rfl, hone, hG, hT, hb⟩
 have HON1 := h_ hone
 obtain ⟨S1, S2, S3⟩ := v0g w1 (.cells #[.string ⟨#[]⟩, .slice none 0 0, .slice none 0 0, .bool false, .int .i64 0, .int .i64 0, .int .i64 0, .int .u64 0, .int .u64 0, .slice none 0 0, .slice none 0 0, .slice none 0 0, .slice none 0 0, .slice none 0 0, .slice none 0 0, .int .i64 0] 38) (.cells #[.int .i64 0, .int .i64 0] 41) 38 41 _ _ (srcC x v1).toArray #[.int .i64 (0), .int .i64 (cb)] rfl rfl
 have HB1 := h_ (bt_ (bt_ HB0.out hb) S3)
 have HG1 := h_ (hG.below S3)
 have HT1 := h_ (hT.below S3)
 have HS1 := h_ S1
 have HP1 := h_ S2
 have l1a := S1.lt
 have l1b := S2.lt
 have hi1 := h_ (show (Tryz.prog.info? 38).map (·.size) = some (srcC x v1).toArray.size by kernel_rfl)
 have hz1 := h_ (show (srcC x v1).toArray.size = 16 from rfl)
 clear hone hG hT hb S1 S2 S3 HB0 
 go_wp2_with (first | (refine wpList_store_row rfl 38 (.tmp 1) (.tmp 7) rfl w1.heap.size (srcC x v1).toArray rfl rfl 38 _ (heap_alloc2_old w1 _ _) hi1.out (by rw [hz1.out]; rfl) HON1.out ?_) | (refine wpList_store_row rfl 41 (.tmp 2) (.tmp 8) rfl (w1.heap.size + 1) #[.int .i64 (0), .int .i64 (cb)] rfl rfl 41 _ ((setRow_other _ _ _ _ (by omega)).trans (heap_alloc2_new w1 _ _)) (by kernel_rfl) rfl (by kernel_rfl) ?_; generalize ((((w1.alloc (.cells #[.string ⟨#[]⟩, .slice none 0 0, .slice none 0 0, .bool false, .int .i64 0, .int .i64 0, .int .i64 0, .int .u64 0, .int .u64 0, .slice none 0 0, .slice none 0 0, .slice none 0 0, .slice none 0 0, .slice none 0 0, .slice none 0 0, .int .i64 0] 38)).alloc (.cells #[.int .i64 0, .int .i64 0] 41)).setRow w1.heap.size (srcC x v1).toArray).setRow (w1.heap.size + 1) #[.int .i64 (0), .int .i64 (cb)]) = u1 at *; generalize w1.heap.size = g1 at *))
 refine (HR2.out _).mono ?_
 rintro e w2 ⟨v2, rfl, hone, hG, hT, hb⟩
 have HON2 := h_ hone
 obtain ⟨S1, S2, S3⟩ := v0g w2 (.cells #[.string ⟨#[]⟩, .slice none 0 0, .slice none 0 0, .bool false, .int .i64 0, .int .i64 0, .int .i64 0, .int .u64 0, .int .u64 0, .slice none 0 0, .slice none 0 0, .slice none 0 0, .slice none 0 0, .slice none 0 0, .slice none 0 0, .int .i64 0] 38) (.cells #[.int .i64 0, .int .i64 0] 41) 38 41 _ _ (srcC src0 v2).toArray #[.int .i64 (134), .int .i64 (db)] rfl rfl
 have HB2 := h_ (bt_ (bt_ HB1.out hb) S3)
 have HG2 := h_ (hG.below S3)
 have HT2 := h_ (hT.below S3)
 have HG1' := h_ ((HG1.out.below hb).below S3)
 have HS1' := h_ ((HS1.out.below hb).below S3)
 have HP1' := h_ ((HP1.out.below hb).below S3)
 have HS2 := h_ S1
 have HP2 := h_ S2
 have l2a := S1.lt
 have l2b := S2.lt
 have hi2 := h_ (show (Tryz.prog.info? 38).map (·.size) = some (srcC src0 v2).toArray.size by kernel_rfl)
 have hz2 := h_ (show (srcC src0 v2).toArray.size = 16 from rfl)
 clear hone hG hT hb S1 S2 S3 HB1 HG1 HS1 HP1
 obtain ⟨d0, d1, d2, d3, d4, d5, d6, d7, d8, d9, d10, d11, d12, d13, d14, d15⟩ := g1w HS1'.out
 have p0 : ((((w2.alloc (.cells #[.string ⟨#[]⟩, .slice none 0 0, .slice none 0 0, .bool false, .int .i64 0, .int .i64 0, .int .i64 0, .int .u64 0, .int .u64 0, .slice none 0 0, .slice none 0 0, .slice none 0 0, .slice none 0 0, .slice none 0 0, .slice none 0 0, .int .i64 0] 38)).alloc (.cells #[.int .i64 0, .int .i64 0] 41)).setRow w2.heap.size (srcC src0 v2).toArray).setRow (w2.heap.size + 1) #[.int .i64 (134), .int .i64 (db)]).cell? ⟨g1 + 1, 0, none⟩ = some (.int .i64 0) := HP1'.out.cell 0
 have q0 : ((((w2.alloc (.cells #[.string ⟨#[]⟩, .slice none 0 0, .slice none 0 0, .bool false, .int .i64 0, .int .i64 0, .int .i64 0, .int .u64 0, .int .u64 0, .slice none 0 0, .slice none 0 0, .slice none 0 0, .slice none 0 0, .slice none 0 0, .slice none 0 0, .int .i64 0] 38)).alloc (.cells #[.int .i64 0, .int .i64 0] 41)).setRow w2.heap.size (srcC src0 v2).toArray).setRow (w2.heap.size + 1) #[.int .i64 (134), .int .i64 (db)]).cell? ⟨w2.heap.size + 1, 0, none⟩ = some (.int .i64 134) := HP2.out.cell 0
 have l3 := HS1'.out.lt
 have l4 := HP1'.out.lt
 go_wp2_with (first | (refine wpList_store_row rfl 38 (.tmp 3) (.tmp 11) rfl w2.heap.size (srcC src0 v2).toArray rfl rfl 38 _ (heap_alloc2_old w2 _ _) hi2.out (by rw [hz2.out]; rfl) HON2.out ?_) | (refine wpList_store_row rfl 41 (.tmp 4) (.tmp 12) rfl (w2.heap.size + 1) #[.int .i64 (134), .int .i64 (db)] rfl rfl 41 _ ((setRow_other _ _ _ _ (by omega)).trans (heap_alloc2_new w2 _ _)) (by kernel_rfl) rfl (by kernel_rfl) ?_; generalize ((((w2.alloc (.cells #[.string ⟨#[]⟩, .slice none 0 0, .slice none 0 0, .bool false, .int .i64 0, .int .i64 0, .int .i64 0, .int .u64 0, .int .u64 0, .slice none 0 0, .slice none 0 0, .slice none 0 0, .slice none 0 0, .slice none 0 0, .slice none 0 0, .int .i64 0] 38)).alloc (.cells #[.int .i64 0, .int .i64 0] 41)).setRow w2.heap.size (srcC src0 v2).toArray).setRow (w2.heap.size + 1) #[.int .i64 (134), .int .i64 (db)]) = u2 at *; generalize w2.heap.size = g2 at *))
 refine (HPR.out u2 v1 HG1'.out).mono ?_
 rintro e w3 ⟨rfl, hb⟩
 have HB3 := h_ (bt_ HB2.out hb)
 have HG3 := h_ (HG1'.out.below hb)
 have HS3 := h_ (HS1'.out.below hb)
 have HP3 := h_ (HP2.out.below hb)
 clear hb d0 d1 d2 d3 d4 d5 d6 d7 d8 d9 d10 d11 d12 d13 d14 d15 p0 q0 l3 l4 l1a l1b l2a l2b
 obtain ⟨d0, d1, d2, d3, d4, d5, d6, d7, d8, d9, -⟩ := g1w HS3.out
 have l3 := HS3.out.lt
 have l4 := HP3.out.lt
 go_wp2_with fail
 refine (HEV.out w3 v1 HG3.out).mono ?_
 rintro e w4 ⟨rfl, hb⟩
 have HB4 := h_ (bt_ HB3.out hb)
 have HP4 := h_ (HP3.out.below hb)
 clear hb d0 d1 d2 d3 d4 d5 d6 d7 d8 d9
 have q0 := HP4.out.cell 0
 have l5 := HP4.out.lt
 simp only [Array.toList, gz_] at q0
 go_wp2_with fail
 go_ret
 exact ⟨rfl, HB4.out⟩
end
end Go.Proofs.YtmnojnopejhebaaGreat
