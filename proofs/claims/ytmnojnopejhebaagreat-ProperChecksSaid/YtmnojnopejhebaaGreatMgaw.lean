/- The state's function last. -/
import Derived.Test.YtmnojnopejhebaaGreatMgah
import Derived.Test.YtmnojnopejhebaaGreatMgai
import Derived.Test.YtmnojnopejhebaaGreatMgar
import Derived.Test.YtmnojnopejhebaaGreatMgat
import Derived.Test.YtmnojnopejhebaaGreatMgau
import Derived.Test.YtmnojnopejhebaaGreatMgav
namespace Go.Proofs.YtmnojnopejhebaaGreat
set_option linter.unusedVariables false
set_option linter.unusedSimpArgs false
set_option maxRecDepth 100000
set_option maxHeartbeats 25600000
section
open Go.RowKit
inductive RT : CT → Prop
 | reg (c r : Int) (a v : Nat) (hc : 0 ≤ c ∧ c < 4) (hr : 0 ≤ r ∧ r < 31) (hv : v < 18446744073709551616) : RT (.mk 1 c r a v [])
 | cell (c r : Int) (a v : Nat) (ha : a < 18446744073709551616) (hv : v < 18446744073709551616) : RT (.mk 2 c r a v [])
 | flt (c r : Int) (a v : Nat) (hc : 0 ≤ c ∧ c < 4) (hv : v < 18446744073709551616) : RT (.mk 3 c r a v [])
 | tru (c r : Int) (a v : Nat) : RT (.mk 7 c r a v [])
 | not (c r : Int) (a v : Nat) {x : CT} (hx : RT x) : RT (.mk 6 c r a v [x])
 | and (c r : Int) (a v : Nat) {x y : CT} (hx : RT x) (hy : RT y) : RT (.mk 4 c r a v [x, y])
 | or (c r : Int) (a v : Nat) {x y : CT} (hx : RT x) (hy : RT y) : RT (.mk 5 c r a v [x, y])
theorem rt_of : ∀ t : CT, t.Fits → a0w 4 t = 0 → RT t := by
 intro t
 refine CT.ind (P := fun t => t.Fits → a0w 4 t = 0 → RT t) ?_ t
 intro k c r a v args IH hf hr
 obtain ⟨hh, hra⟩ := l1m hr
 obtain ⟨hk, hw, h1, h2⟩ := head0 hh
 cases hf with
 | mk hn ha =>
  obtain ⟨n1, n2, n3, n4, n5⟩ := hn
  have hk' : k = 1 ∨ k = 2 ∨ k = 3 ∨ k = 4 ∨ k = 5 ∨ k = 6 ∨ k = 7 := by omega
  rcases hk' with rfl | rfl | rfl | rfl | rfl | rfl | rfl
  ·obtain rfl : args = [] := List.length_eq_zero_iff.1 (by have : c0w 1 = 0 := rfl; omega)
   exact .reg c r a v (h2 (.inl rfl)) (h1 rfl) n2
  ·obtain rfl : args = [] := List.length_eq_zero_iff.1 (by have : c0w 2 = 0 := rfl; omega)
   exact .cell c r a v n1 n2
  ·obtain rfl : args = [] := List.length_eq_zero_iff.1 (by have : c0w 3 = 0 := rfl; omega)
   exact .flt c r a v (h2 (.inr rfl)) n2
  ·obtain ⟨x, y, rfl⟩ := f1b (show args.length = 2 by have : c0w 4 = 2 := rfl; omega)
   exact .and c r a v (IH x (by simp) (ha x (by simp)) (hra x (by simp))) (IH y (by simp) (ha y (by simp)) (hra y (by simp)))
  ·obtain ⟨x, y, rfl⟩ := f1b (show args.length = 2 by have : c0w 5 = 2 := rfl; omega)
   exact .or c r a v (IH x (by simp) (ha x (by simp)) (hra x (by simp))) (IH y (by simp) (ha y (by simp)) (hra y (by simp)))
  ·obtain ⟨x, rfl⟩ := List.length_eq_one_iff.1 (show args.length = 1 by have : c0w 6 = 1 := rfl; omega)
   exact .not c r a v (IH x (by simp) (ha x (by simp)) (hra x (by simp)))
  ·obtain rfl : args = [] := List.length_eq_zero_iff.1 (by have : c0w 7 = 0 := rfl; omega)
   exact .tru c r a v
theorem d1q : ∀ r, r < 31 → (regL (r : Nat)).all letU = true ∧ (regL (r : Nat)).length ≤ 24 ∧ (regL (r : Nat)).head? = some 88 ∧ regN (ba (regL (r : Nat))) = some r := by decide +kernel
theorem a1w : ∀ c, c < 4 → intL (c : Nat) = [48 + UInt8.ofNat c] := by decide +kernel
theorem w0d (v : Nat) (hv : v < 18446744073709551616) : (hexL v).all letU = true ∧ (hexL v).length ≤ 24 ∧ hexL v = 48 :: 120 :: txt 16 v ∧ (b0h (hexL v)) = (v, 0) := by
 obtain ⟨h1, _, _⟩ := h0n 16 (by decide) (by decide) (v + 1) v (by omega)
 have hl := o0r 16 (by decide) 15 v (by omega)
 refine ⟨?_, by unfold hexL; simp; omega, rfl, f1m v hv⟩
 unfold hexL
 rw [List.all_append, Bool.and_eq_true]
 refine ⟨by decide +kernel, List.all_eq_true.2 fun c hc => ?_⟩
 obtain ⟨d, hd, rfl⟩ := h1 c hc
 have : ∀ d, d < 16 → letU (dg d) = true := by decide +kernel
 exact this d hd
theorem l0x (v : Nat) (hv : v < 18446744073709551616) : pcOK (2, hexL v) := by
 obtain ⟨h1, h2, h3, h4⟩ := w0d v hv
 exact .inr (.inr (.inr ⟨rfl, h1, h2, ⟨48, 120 :: txt 16 v, h3, by decide +kernel⟩, by rw [h4]⟩))
theorem e1g {c : Int} (hc : 0 ≤ c ∧ c < 4) : pcOK (2, intL c) := by
 obtain ⟨n, rfl⟩ := Int.eq_ofNat_of_zero_le hc.1
 have : ∀ n, n < 4 → (intL (n : Nat)).all letU = true ∧ (intL (n : Nat)).length ≤ 24 ∧ (b0h (intL (n : Nat))).2 = 0 ∧ f0y ((48 + UInt8.ofNat n).toNat : Int) = true := by decide +kernel
 obtain ⟨h1, h2, h3, h4⟩ := this n (by omega)
 exact .inr (.inr (.inr ⟨rfl, h1, h2, ⟨_, [], a1w n (by omega), h4⟩, h3⟩))
theorem l1n {r : Int} (hr : 0 ≤ r ∧ r < 31) : pcOK (1, regL r) := by
 obtain ⟨n, rfl⟩ := Int.eq_ofNat_of_zero_le hr.1
 obtain ⟨h1, h2, h3, h4⟩ := d1q n (by omega)
 refine .inr (.inr (.inl ⟨rfl, h1, h2, ?_⟩))
 cases hx : regL (n : Nat) with
 | nil => rw [hx] at h3; cases h3
 | cons c l =>
  rw [hx] at h3
  obtain rfl : c = 88 := by simpa using h3
  exact ⟨88, l, rfl, by decide +kernel⟩
abbrev KT := Int × ByteArray
section
variable {tk : List Tk} {k : Nat} {A : Int} {x : KT} {xs : List KT}
end
end
section
open Go.RowKit
theorem c1d : ∀ (n : Nat) (s : ByteArray) (i : Nat) (acc : List (Nat × Nat × Nat)), s.size - i = n → (∀ r ∈ acc, r.1 = 1 → pcOK (1, (s.extract r.2.1 r.2.2).data.toList)) → ∀ r ∈ (b0j s i acc).1, r.1 = 1 → pcOK (1, (s.extract r.2.1 r.2.2).data.toList) := by
 intro n
 induction n using Nat.strongRecOn with
 | _ n ih =>
  intro s i acc hn hacc
  rw [b0j]
  by_cases h : i < s.size
  ·rw [dif_pos h]
   by_cases h9 : (e0g s i).1 = 9
   ·rw [if_pos h9]; intro r hr; simp at hr
   ·rw [if_neg h9]
    by_cases h2 : i < (e0g s i).2.1
    ·rw [dif_pos h2]
     refine ih (s.size - (e0g s i).2.1) (by omega) s _ _ rfl ?_
     by_cases h0 : (e0g s i).1 = 0
     ·rw [if_pos h0]; exact hacc
     ·rw [if_neg h0]
      intro r hr h1
      rcases List.mem_append.1 hr with hr | hr
      ·exact hacc r hr h1
      ·have e : r = ((e0g s i).1, i, (e0g s i).2.1) := by simpa using hr
       subst e
       simp only at h1
       have hs : e0x (bt s i) = true ∧ ¬ 24 < c0t s i - i ∧ f0y (bt s i) = false ∧ (e0g s i).2.1 = c0t s i := by
        unfold e0g at h1 ⊢
        split at h1
        ·cases h1
        rename_i a1
        rw [if_neg a1]
        split at h1
        ·cases h1
        rename_i a2
        rw [if_neg a2]
        split at h1
        ·cases h1
        rename_i a3
        rw [if_neg a3]
        split at h1
        ·cases h1
        rename_i a4
        rw [if_neg a4]
        split at h1
        ·split at h1 <;> cases h1
        rename_i a5
        rw [if_neg a5]
        exact ⟨by simpa using a3, a4, by simpa using a5, rfl⟩
       obtain ⟨q1, q2, q3, q4⟩ := hs
       simp only
       rw [q4] at h2 ⊢
       rw [w0g]
       have hl := x0t s
       have hb := (g1p s i).2 (by omega)
       have hlen := m1h (L := s.data.toList) (Nat.le_of_lt h2) (by omega)
       refine .inr (.inr (.inl ⟨rfl, ?_, by show (seg s.data.toList i (c0t s i)).length ≤ 24; omega, ?_⟩))
       ·rw [List.all_eq_true]
        intro c hc
        obtain ⟨j, hj, e⟩ := List.getElem_of_mem hc
        rw [hlen] at hj
        have hsp := (c1u (k0a s) s.size _ i rfl).1 (i + j) (by omega) (by unfold c0t at hj h2; omega)
        have e2 : s.data.toList[i + j]'(by omega) = c := by
         rw [← e]; simp [seg]
        have hx : (!e0x (bt s (i + j))) = false := hsp
        rw [l1y (by omega), e2] at hx
        simpa [letU] using hx
       ·refine ⟨s.data.toList[i]'(by omega), _, g1z h2 (by omega), ?_⟩
        rw [← l1y (by omega)]; exact q3
    ·rw [dif_neg h2]; intro r hr; simp at hr
  ·rw [dif_neg h]
   intro r hr h1
   rcases List.mem_append.1 hr with hr | hr
   ·exact hacc r hr h1
   ·have e : r = (4, s.size, s.size) := by simpa using hr
    subst e; cases h1
theorem e1d (t : ByteArray) (a : Nat) (s : RS) (h : (a0p (tkOf t a (b0j t 0 []).1) s).1 = 1) : pcOK (1, (a0p (tkOf t a (b0j t 0 []).1) s).2.1.data.toList) := by
 unfold a0p at h ⊢
 rw [List.getD_eq_getElem?_getD] at h ⊢
 rcases hq : (tkOf t a (b0j t 0 []).1)[s.k]? with _ | q
 ·rw [hq] at h; cases h
 ·rw [hq] at h
  have hm := List.mem_of_getElem? hq
  simp only [tkOf, List.mem_map] at hm
  obtain ⟨r, hr, e⟩ := hm
  subst e
  exact c1d _ t 0 [] rfl (by simp) r hr (by have : ((r.1 : Nat) : Int) = 1 := h; omega)
abbrev W64 : Nat := 18446744073709551616
theorem orW {a b : Nat} (ha : a < W64) (hb : b < W64) : a ||| b < W64 := Nat.or_lt_two_pow (n := 64) ha hb
theorem m0d (b : Bool) (n : Nat) (hn : n < 64) : k0c b n < W64 := by
 unfold k0c; split
 ·exact Nat.pow_lt_pow_right (by decide) hn
 ·decide
theorem w0j (t : Bool) (o : Nat) (a b c d : Bool) (l : Nat) : (encD t o a b c d l).1 < W64 := by
 unfold encD
 split
 ·decide
 ·rename_i h
  have ho : o < W64 := by
   have : ¬ 4294967296 ≤ o := fun e => h (.inl e)
   show o < 18446744073709551616; omega
  exact orW (orW (orW ho (by decide)) (m0d _ _ (by decide))) (orW (orW (orW (m0d _ _ (by decide)) (m0d _ _ (by decide))) (m0d _ _ (by decide))) (m0d _ _ (by decide)))
theorem e1x (tk : List Tk) (s : RS) : (litV tk s).1 < W64 := by
 unfold litV
 dsimp only
 split
 ·exact w0j _ _ _ _ _ _ _
 split
 ·exact w0j _ _ _ _ _ _ _
 split
 ·exact w0j _ _ _ _ _ _ _
 ·exact c0x tk s
def u0z (t : CT) : Prop := t.Fits ∧ u0l t = true
theorem i0k {k c r : Int} {a v : Nat} {args : List CT} (h : a < W64 ∧ v < W64 ∧ I64 k ∧ I64 c ∧ I64 r) (hz : zeroT k c r a v args = .mk k c r a v args) (ha : ∀ u ∈ args, u0z u) : u0z (.mk k c r a v args) := by
 refine ⟨.mk h (fun u hu => (ha u hu).1), ?_⟩
 rw [u0l, hz, z0c, Bool.true_and]
 exact r0e args (fun j hj => (ha _ (List.getElem_mem hj)).2)
theorem i64c (k : Int) (h : -100 ≤ k ∧ k ≤ 100) : I64 k := by unfold I64; omega
theorem w0n : u0z cF := i0k ⟨by decide, by decide, i64c _ (by decide), i64c _ (by decide), i64c _ (by decide)⟩ rfl (by simp)
theorem f1d (tk : List Tk) (s : RS) : u0z (h0u tk s).1 := by
 have z : I64 0 := i64c 0 (by decide)
 have z1 : I64 1 := i64c _ (by decide)
 have z2 : I64 2 := i64c _ (by decide)
 have z3 : I64 3 := i64c _ (by decide)
 have z7 : I64 7 := i64c _ (by decide)
 unfold h0u
 split
 ·exact i0k ⟨c0x _ _, c0x _ _, z2, z, z⟩ rfl (by simp)
 split
 ·exact i0k ⟨by decide, by decide, z7, z, z⟩ rfl (by simp)
 split
 ·exact i0k ⟨by decide, c0x _ _, z3, i64c _ (by have := i0t tk (a0v tk s) 4 (by decide); omega), z⟩ rfl (by simp)
 ·refine i0k ⟨by decide, c0x _ _, z1, i64c _ (by have := i0t tk s 4 (by decide); omega), i64c _ ?_⟩ rfl (by simp)
  rcases hq : regN (a0p tk (d0z tk (b0d tk s 4).2 3 ⟨#[58]⟩)).2.1 with _ | j
  ·simp
  ·have := v0l hq
   simp only [Option.getD_some]; omega
def PF.made : PF → Prop
 | .bothL c => u0z c
 | .eitherL c => u0z c
 | _ => True
theorem d0y (tk : List Tk) : ∀ (f : Nat) (F : PF) (s : RS) (m : Nat), F.made → u0z (a0e tk f F s m).1
 | 0, _, s, m, _ => by unfold a0e; exact w0n
 | f + 1, .either, s, m, _ => by simp only [a0e]; exact d0y tk f (.eitherL _) _ _ (d0y tk f .both s m trivial)
 | f + 1, .both, s, m, _ => by simp only [a0e]; exact d0y tk f (.bothL _) _ _ (d0y tk f .one s m trivial)
 | f + 1, .eitherL c, s, m, h => by
  simp only [a0e]; split
  ·refine d0y tk f (.eitherL _) _ _ (i0k ⟨by decide, by decide, i64c _ (by decide), i64c _ (by decide), i64c _ (by decide)⟩ rfl ?_)
   intro u hu
   simp only [List.mem_cons, List.not_mem_nil, or_false] at hu
   rcases hu with rfl | rfl
   ·exact h
   ·exact d0y tk f .both _ _ trivial
  ·exact h
 | f + 1, .bothL c, s, m, h => by
  simp only [a0e]; split
  ·refine d0y tk f (.bothL _) _ _ (i0k ⟨by decide, by decide, i64c _ (by decide), i64c _ (by decide), i64c _ (by decide)⟩ rfl ?_)
   intro u hu
   simp only [List.mem_cons, List.not_mem_nil, or_false] at hu
   rcases hu with rfl | rfl
   ·exact h
   ·exact d0y tk f .one _ _ trivial
  ·exact h
 | f + 1, .one, s, m, _ => by
  simp only [a0e]; split
  ·exact d0y tk f .either _ _ trivial
  ·split
   ·split
    ·refine i0k ⟨by decide, by decide, i64c _ (by decide), i64c _ (by decide), i64c _ (by decide)⟩ rfl ?_
     intro u hu
     have e : u = _ := List.mem_singleton.1 hu
     subst e
     exact d0y tk f .one _ _ trivial
    ·exact f1d tk _
   ·exact w0n
structure Made (x : SrcA) : Prop where
 name : x.after = 0 ∨ pcOK (1, x.name.data.toList)
 tables : ∀ t ∈ x.tables, t < W64
 cells : ∀ p ∈ x.cells, p.1 < W64 ∧ p.2 < W64
 cores : ∀ c ∈ x.cores, (∀ v ∈ c.regs, v < W64) ∧ c.space < 65536 ∧ c.table < W64
 cond : u0z x.cond
theorem made0 : Made src0 := ⟨.inl rfl, by simp [src0], by simp [src0], by simp [src0], w0n⟩
theorem Made.like {x y : SrcA} (h : Made x) (ha : x.after = 0 → y.after = 0) (e1 : y.name = x.name) (e2 : y.tables = x.tables) (e3 : y.cells = x.cells) (e4 : y.cores = x.cores) (e5 : y.cond = x.cond) : Made y :=
 ⟨by rw [e1]; exact h.name.imp ha id, by rw [e2]; exact h.tables, by rw [e3]; exact h.cells, by rw [e4]; exact h.cores, by rw [e5]; exact h.cond⟩
theorem t0v {x : SrcA} (h : Made x) (f : CoreA → CoreA) (hf : ∀ c, ((∀ v ∈ c.regs, v < W64) ∧ c.space < 65536 ∧ c.table < W64) → (∀ v ∈ (f c).regs, v < W64) ∧ (f c).space < 65536 ∧ (f c).table < W64) : Made (k0n x f) := by
 rcases hc : x.cores.getLast? with _ | c
 ·unfold k0n; rw [hc]; exact h
 ·obtain ⟨l, hx⟩ := List.getLast?_eq_some_iff.1 hc
  rw [l0z hx]
  refine ⟨h.name, h.tables, h.cells, fun d hd => ?_, h.cond⟩
  rcases List.mem_append.1 hd with hd | hd
  ·exact h.cores d (by rw [hx]; exact List.mem_append_left _ hd)
  ·have e : d = f c := by simpa using hd
   subst e; exact hf c (h.cores c (by rw [hx]; simp))
theorem j1r {x : SrcA} (h : Made x) (t : ByteArray) (a : Int) : Made (insR x t a).1 := by
 unfold insR
 split
 ·exact h
 ·dsimp only
  split
  ·have k := t0v h (fun c => if x.after = 2 then { c with code := c.code ++ [(f0o t.data.toList).1] } else { c with hand := c.hand ++ [(f0o t.data.toList).1] }) (fun c hc => by split <;> exact hc)
   exact k.like id rfl rfl rfl rfl rfl
  ·exact h
theorem l1u {tk : List Tk} {s : RS} (h : (endR tk s).code = 0) : s.code = 0 := by
 unfold endR at h
 split at h
 ·exact h
 ·exact (i0w tk s 110).code h
theorem v0e {x : SrcA} (h : Made x) (t : ByteArray) (a : Nat) (s : RS) (w : ByteArray) (h0 : ¬ w = j0i → ¬ x.after = 0) (at_ : Int) (hok : (g0y (tkOf t a (b0j t 0 []).1) x s w at_).2.code = 0) : Made (g0y (tkOf t a (b0j t 0 []).1) x s w at_).1 := by
 unfold g0y at hok ⊢
 split at hok
 ·rename_i e; rw [if_pos e]
  unfold r0p at hok ⊢
  refine ⟨.inr ?_, h.tables, h.cells, h.cores, h.cond⟩
  apply e1d
  have hc := (d0l _ _).code hok
  split at hc
  ·rename_i e1; exact e1
  ·exfalso
   unfold e0e at hc
   split at hc
   ·exact absurd hc (by show ¬ (110 : Int) = 0; decide)
   ·rename_i e2; exact e2 hc
 rename_i e; rw [if_neg e]
 have hnm : pcOK (1, x.name.data.toList) := h.name.resolve_left (h0 e)
 split at hok
 ·rename_i e; rw [if_pos e]
  unfold i0s; split
  ·refine ⟨h.name, fun v hv => ?_, h.cells, h.cores, h.cond⟩
   rcases List.mem_append.1 hv with hv | hv
   ·exact h.tables v hv
   ·have e : v = _ := List.mem_singleton.1 hv
    rw [e]; exact c0x _ _
  ·exact h
 rename_i e; rw [if_neg e]
 split at hok
 ·rename_i e; rw [if_pos e]
  unfold n0b; split
  ·refine ⟨h.name, h.tables, fun v hv => ?_, h.cores, h.cond⟩
   rcases List.mem_append.1 hv with hv | hv
   ·exact h.cells v hv
   ·have e : v = _ := List.mem_singleton.1 hv
    rw [e]; exact ⟨c0x _ _, e1x _ _⟩
  ·exact h
 rename_i e; rw [if_neg e]
 split at hok
 ·rename_i e; rw [if_pos e]
  unfold n0s
  refine ⟨.inr hnm, h.tables, h.cells, fun c hc => ?_, h.cond⟩
  ·rcases List.mem_append.1 hc with hc | hc
   ·exact h.cores c hc
   ·have e : c = _ := List.mem_singleton.1 hc
    rw [e]
    refine ⟨fun v hv => by rw [List.eq_of_mem_replicate hv]; decide, ?_, c0x _ _⟩
    have key : ∀ (b : Bool) (r : RS), (if b = true then b0d (tkOf t a (b0j t 0 []).1) r 65536 else (0, r)).1 < 65536 := fun b r => by
     cases b
     ·rw [if_neg (by simp)]; show 0 < 65536; decide
     ·rw [if_pos rfl]; exact i0t _ _ _ (by decide)
    exact key _ _
 rename_i e; rw [if_neg e]
 split at hok
 ·rename_i e; rw [if_pos e]
  unfold f0k
  split
  ·refine t0v h _ (fun c hc => ⟨fun v hv => ?_, hc.2⟩)
   rcases List.mem_or_eq_of_mem_set hv with hv | hv
   ·exact hc.1 v hv
   ·rw [hv]; exact e1x _ _
  ·exact h
 rename_i e; rw [if_neg e]
 split at hok
 ·rename_i e; rw [if_pos e]
  exact ⟨.inr hnm, h.tables, h.cells, h.cores, h.cond⟩
 ·rename_i e; rw [if_neg e]
  exact ⟨.inr hnm, h.tables, h.cells, h.cores, d0y _ _ _ _ _ trivial⟩
theorem h1f {x : SrcA} (h : Made x) (t : ByteArray) (a : Nat) (hok : (rowA x t a).2.1 = 0) : Made (rowA x t a).1 := by
 unfold rowA at hok ⊢
 dsimp only at hok ⊢
 split at hok
 ·exact absurd hok (by show ¬ (110 : Int) = 0; decide)
 rename_i hA
 rw [if_neg hA]
 split at hok
 ·rename_i hB; rw [if_pos hB]; exact j1r h t _
 rename_i hB
 rw [if_neg hB]
 split at hok
 ·rename_i hC; rw [if_pos hC]; exact h
 rename_i hC
 rw [if_neg hC]
 refine v0e h t a _ _ (fun e h1 => hA (.inr ?_)) _ (l1u hok)
 rw [decide_eq_true h1, decide_eq_false e]; simp
theorem t0c (s : ByteArray) : ∀ (l : List (Nat × Nat)) (x : SrcA), Made x → (g0b s x l).2.1 = 0 → Made (g0b s x l).1 ∧ (g0b s x l).1.after = 4
 | [], x, h, h0 => by
  rw [g0b] at h0 ⊢
  split at h0
  ·rename_i h4; rw [if_pos h4]; exact ⟨h, h4⟩
  ·exact absurd h0 (by show ¬ (110 : Int) = 0; decide)
 | r :: l, x, h, h0 => by
  rw [g0b] at h0 ⊢
  try dsimp only at h0 ⊢
  split at h0
  ·rename_i hc
   rw [if_pos hc]
   exact t0c s l _ (h1f h _ _ hc) h0
  ·rename_i hc; exact absurd h0 hc
theorem r0z {s : ByteArray} (h : (litA s).2.1 = 0) : Made (litA s).1 ∧ (litA s).1.after = 4 := by
 obtain ⟨_, hL⟩ := v0y h
 rw [hL] at h ⊢
 exact t0c s _ _ made0 h
end
section
open Go.RowKit
def PF.base : PF → Nat
 | .bothL c => a0k c
 | .eitherL c => a0k c
 | _ => 1
theorem f1u (t : CT) : 1 ≤ a0k t := by cases t; rw [a0k]; omega
theorem k1r (F : PF) : 1 ≤ F.base := by cases F <;> simp [PF.base, f1u]
theorem a1v (tk : List Tk) (s : RS) : a0k (h0u tk s).1 = 1 := by
 unfold h0u
 split
 ·rfl
 split
 ·rfl
 split
 ·rfl
 ·rfl
theorem d0c (tk : List Tk) : ∀ (f : Nat) (F : PF) (s : RS) (m : Nat), a0k (a0e tk f F s m).1 + 2 * m ≤ F.base + 2 * (a0e tk f F s m).2.2
 | 0, F, s, m => by
  have := k1r F
  unfold a0e
  show a0k cF + 2 * m ≤ F.base + 2 * m
  rw [show a0k cF = 1 from rfl]; omega
 | f + 1, .either, s, m => by
  simp only [a0e]
  have h1 := d0c tk f .both s m
  have h2 := d0c tk f (.eitherL (a0e tk f .both s m).1) (a0e tk f .both s m).2.1 (a0e tk f .both s m).2.2
  simp only [PF.base] at h1 h2 ⊢
  omega
 | f + 1, .both, s, m => by
  simp only [a0e]
  have h1 := d0c tk f .one s m
  have h2 := d0c tk f (.bothL (a0e tk f .one s m).1) (a0e tk f .one s m).2.1 (a0e tk f .one s m).2.2
  simp only [PF.base] at h1 h2 ⊢
  omega
 | f + 1, .eitherL c, s, m => by
  simp only [a0e]
  split
  ·have h1 := d0c tk f .both (c0z tk (a0v tk s) m) (m + 1)
   generalize a0e tk f .both (c0z tk (a0v tk s) m) (m + 1) = y at *
   have h2 := d0c tk f (.eitherL (.mk 5 0 0 0 0 [c, y.1])) y.2.1 y.2.2
   simp only [PF.base, a0k, b0i] at h1 h2 ⊢
   omega
  ·simp [PF.base]
 | f + 1, .bothL c, s, m => by
  simp only [a0e]
  split
  ·have h1 := d0c tk f .one (c0z tk (a0v tk s) m) (m + 1)
   generalize a0e tk f .one (c0z tk (a0v tk s) m) (m + 1) = y at *
   have h2 := d0c tk f (.bothL (.mk 4 0 0 0 0 [c, y.1])) y.2.1 y.2.2
   simp only [PF.base, a0k, b0i] at h1 h2 ⊢
   omega
  ·simp [PF.base]
 | f + 1, .one, s, m => by
  simp only [a0e]
  split
  ·have h1 := d0c tk f .either (a0v tk s) m
   simp only [PF.base] at h1 ⊢
   omega
  ·split
   ·split
    ·have h1 := d0c tk f .one (a0v tk (c0z tk s m)) (m + 1)
     generalize a0e tk f .one (a0v tk (c0z tk s m)) (m + 1) = y at *
     simp only [PF.base, a0k, b0i] at h1 ⊢
     omega
    ·rw [a1v]; simp only [PF.base]; omega
   ·rw [show a0k cF = 1 from rfl]; simp only [PF.base]; omega
theorem a1u (tk : List Tk) (s : RS) : a0k (h0d tk s).1 ≤ 133 := by
 unfold h0d
 have h1 := d0c tk (4 * tk.length + 3) .either s 0
 have h2 := (d0b tk (4 * tk.length + 3) .either s 0 ⟨by simp, fun _ => by simp⟩).1
 simp only [PF.base] at h1 ⊢
 omega
theorem q0s (x : SrcA) (f : CoreA → CoreA) : (k0n x f).cond = x.cond := by
 unfold k0n; split <;> rfl
theorem m1l {x : SrcA} (h : a0k x.cond ≤ 133) (t : ByteArray) (a : Nat) : a0k (rowA x t a).1.cond ≤ 133 := by
 unfold rowA
 dsimp only
 split
 ·exact h
 split
 ·unfold insR
  split
  ·exact h
  ·dsimp only
   split
   ·show a0k (k0n x _).cond ≤ 133
    rw [q0s]; exact h
   ·exact h
 split
 ·exact h
 ·unfold g0y
  split
  ·exact h
  split
  ·unfold i0s; split <;> exact h
  split
  ·unfold n0b; split <;> exact h
  split
  ·exact h
  split
  ·unfold f0k
   split
   ·dsimp only; rw [q0s]; exact h
   ·exact h
  split
  ·exact h
  ·exact a1u _ _
theorem x0i (s : ByteArray) : ∀ (l : List (Nat × Nat)) (x : SrcA), a0k x.cond ≤ 133 → a0k (g0b s x l).1.cond ≤ 133
 | [], x, h => by
  unfold g0b
  split
  ·exact h
  ·show a0k cF ≤ 133; decide
 | r :: l, x, h => by
  unfold g0b
  dsimp only
  split
  ·exact x0i s l _ (m1l h _ _)
  ·show a0k cF ≤ 133; decide
theorem n1i (s : ByteArray) : a0k (litA s).1.cond ≤ 133 := by
 unfold litA
 split
 ·exact x0i s _ _ (by decide)
 ·show a0k cF ≤ 133; decide
theorem a1o {s : ByteArray} (h : (litA s).2.1 = 0) (hs : Sizes (litA s).1 20000) : GSizes (gsrc (litA s).1) := by
 obtain ⟨hm, _⟩ := r0z h
 have hc := n1i s
 generalize (litA s).1 = x at *
 refine ⟨hs.cells, by simpa [gsrc] using hs.cores, hs.tables, ?_, ?_, ?_, ?_, ?_, ?_, ?_, ?_, ?_, ?_⟩
 ·have := hs.pT; show x.pT.length ≤ _; unfold maxLen; omega
 ·have := hs.pC; show x.pC.length ≤ _; unfold maxLen; omega
 ·have := hs.pCo; show x.pCo.length ≤ _; unfold maxLen; omega
 ·have := hs.pI; show x.pI.length ≤ _; unfold maxLen; omega
 ·intro q hq; have := hs.ins q hq; unfold maxLen; omega
 ·intro c hcm
  obtain ⟨d, hd, rfl⟩ := List.mem_map.1 (show c ∈ x.cores.map l0d from hcm)
  have := hs.code d hd
  exact ⟨this.1, this.2.1, by show d.regs.length ≤ _; omega⟩
 ·exact hm.tables
 ·exact hm.cells
 ·intro c hcm
  obtain ⟨d, hd, rfl⟩ := List.mem_map.1 (show c ∈ x.cores.map l0d from hcm)
  have := hm.cores d hd
  exact ⟨this.2.2, this.1⟩
 ·show a0k x.cond ≤ _; omega
end
section
open Go.RowKit
theorem Parts.grd {w : World} {f : Nat → Nat} {B : Nat} {x : SrcA} {v : SrcV} (h : Parts w f B x v) (hs : GSizes (gsrc x)) : GRd w (gsrc x) v := by
 have own : ∀ {l : Nat} {e : TypeId} {size : Nat} {v : Value} {n : Nat} {xs : List Value}, OwnL w f B l e size v n xs → RdV w size v n xs := fun h => by
  exact Rds.of_own h.1
 have hl : (gsrc x).cores.length = x.cores.length := by simp [gsrc]
 have e : ∀ (i : Nat) (h : i < x.cores.length), (gsrc x).cores[i]'(by rw [hl]; exact h) = l0d x.cores[i] := fun i h => by simp [gsrc]
 refine ⟨own h.cells, ?_, by rw [h.lenc, hl], fun i h1 h2 => ?_, ⟨_, h.cond⟩, own h.tables, own h.pT, own h.pC, own h.pCo, own h.pI, h.leni, fun i h1 h2 => own (h.ins i h1 h2), hs⟩
 ·rw [hl]; show RdV w 5 v.vCo _ (h0x v.cvs (x.cores.map l0d)); rw [n0l]; exact own h.cores
 ·have q := h.core i (by rw [← hl]; exact h1) h2
  rw [e i (by rw [← hl]; exact h1)]
  exact ⟨own q.1, own q.2.1, own q.2.2⟩
end
section
open Go.RowKit
theorem p0h {w : World} {f : Nat → Nat} {B g n : Nat} {x : SrcA} {v : SrcV} (hS : ST w f B g n x v) (h0 : x.cores.length = 0) :
  Calls Tryz.prog 122 #[.pointer (some ⟨g, 0, none⟩)] w fun e w' => e = .returned (.pointer none) ∧ w' = w := by
 obtain ⟨pT, cT, hvT, _⟩ := a0z hS.parts.cores.1
 have c2 := hS.blk.cell 2
 have hgl := hS.lt
 simp only [stC, gz_, gs_] at c2
 rw [hvT, h0] at c2
 clear hS h0 hvT
 go_enter Tryz.func122, Tryz.ntmps122
 go_wp2_with fail
 go_ret
 exact ⟨rfl, rfl⟩
theorem h0v {w : World} {f : Nat → Nat} {B g n : Nat} {x : SrcA} {v : SrcV} (hS : ST w f B g n x v) (m : Nat) (h0 : x.cores.length = m + 1) (gc cap : Nat) (hv : v.vCo = .slice (some ⟨gc, 0, none⟩) (m + 1) cap) :
  Calls Tryz.prog 122 #[.pointer (some ⟨g, 0, none⟩)] w fun e w' => e = .returned (.pointer (some ⟨gc, m * 5, none⟩)) ∧ w' = w := by
 have c2 := hS.blk.cell 2
 have hgl := hS.lt
 simp only [stC, gz_, gs_] at c2
 rw [hv] at c2
 have hm : m ≤ 20000 := by have := hS.sizes.cores; have := hS.small; omega
 have hw : IntKind.i64.wrap (((m : Int) + 1) - 1) = (m : Int) := by simp [IntKind.wrap, IntKind.bits, IntKind.signed]; omega
 have hp : decide ((0 : Int) < (m : Int) + 1) = true := decide_eq_true (by omega)
 clear hS h0 hv
 go_enter Tryz.func122, Tryz.ntmps122
 go_wp2_with fail
 go_ret
 exact ⟨by simp, rfl⟩
end
end Go.Proofs.YtmnojnopejhebaaGreat
