/- The state's function last. -/
import Derived.Test.YtmnojnopejhebaaGreatMgah
import Derived.Test.YtmnojnopejhebaaGreatMgai
import Derived.Test.YtmnojnopejhebaaGreatMgar
import Derived.Test.YtmnojnopejhebaaGreatMgat
import Derived.Test.YtmnojnopejhebaaGreatMgau
import Derived.Test.YtmnojnopejhebaaGreatMgav
namespace Go.Proofs.YtmnojnopejhebaaGreat
set_option linter.unusedVariables false
set_option linter.unusedSimpArgs false
set_option maxRecDepth 100000
set_option maxHeartbeats 25600000
section
open Go.RowKit
inductive RT : CT → Prop
 | reg (c r : Int) (a v : Nat) (hc : 0 ≤ c ∧ c < 4) (hr : 0 ≤ r ∧ r < 31) (hv : v < 18446744073709551616) : RT (.mk 1 c r a v [])
 | cell (c r : Int) (a v : Nat) (ha : a < 18446744073709551616) (hv : v < 18446744073709551616) : RT (.mk 2 c r a v [])
 | flt (c r : Int) (a v : Nat) (hc : 0 ≤ c ∧ c < 4) (hv : v < 18446744073709551616) : RT (.mk 3 c r a v [])
 | tru (c r : Int) (a v : Nat) : RT (.mk 7 c r a v [])
 | not (c r : Int) (a v : Nat) {x : CT} (hx : RT x) : RT (.mk 6 c r a v [x])
 | and (c r : Int) (a v : Nat) {x y : CT} (hx : RT x) (hy : RT y) : RT (.mk 4 c r a v [x, y])
 | or (c r : Int) (a v : Nat) {x y : CT} (hx : RT x) (hy : RT y) : RT (.mk 5 c r a v [x, y])
theorem rt_of : ∀ t : CT, t.Fits → b0q 4 t = 0 → RT t := by
 intro t
 refine CT.ind (P := fun t => t.Fits → b0q 4 t = 0 → RT t) ?_ t
 intro k c r a v args IH hf hr
 obtain ⟨hh, hra⟩ := j1j hr
 obtain ⟨hk, hw, h1, h2⟩ := head0 hh
 cases hf with
 | mk hn ha =>
  obtain ⟨n1, n2, n3, n4, n5⟩ := hn
  have hk' : k = 1 ∨ k = 2 ∨ k = 3 ∨ k = 4 ∨ k = 5 ∨ k = 6 ∨ k = 7 := by omega
  rcases hk' with rfl | rfl | rfl | rfl | rfl | rfl | rfl
  ·obtain rfl : args = [] := List.length_eq_zero_iff.1 (by have : f0h 1 = 0 := rfl; omega)
   exact .reg c r a v (h2 (.inl rfl)) (h1 rfl) n2
  ·obtain rfl : args = [] := List.length_eq_zero_iff.1 (by have : f0h 2 = 0 := rfl; omega)
   exact .cell c r a v n1 n2
  ·obtain rfl : args = [] := List.length_eq_zero_iff.1 (by have : f0h 3 = 0 := rfl; omega)
   exact .flt c r a v (h2 (.inr rfl)) n2
  ·obtain ⟨x, y, rfl⟩ := g1x (show args.length = 2 by have : f0h 4 = 2 := rfl; omega)
   exact .and c r a v (IH x (by simp) (ha x (by simp)) (hra x (by simp))) (IH y (by simp) (ha y (by simp)) (hra y (by simp)))
  ·obtain ⟨x, y, rfl⟩ := g1x (show args.length = 2 by have : f0h 5 = 2 := rfl; omega)
   exact .or c r a v (IH x (by simp) (ha x (by simp)) (hra x (by simp))) (IH y (by simp) (ha y (by simp)) (hra y (by simp)))
  ·obtain ⟨x, rfl⟩ := List.length_eq_one_iff.1 (show args.length = 1 by have : f0h 6 = 1 := rfl; omega)
   exact .not c r a v (IH x (by simp) (ha x (by simp)) (hra x (by simp)))
  ·obtain rfl : args = [] := List.length_eq_zero_iff.1 (by have : f0h 7 = 0 := rfl; omega)
   exact .tru c r a v
theorem c1m : ∀ r, r < 31 → (regL (r : Nat)).all letU = true ∧ (regL (r : Nat)).length ≤ 24 ∧ (regL (r : Nat)).head? = some 88 ∧ regN (ba (regL (r : Nat))) = some r := by decide +kernel
theorem a1h : ∀ c, c < 4 → intL (c : Nat) = [48 + UInt8.ofNat c] := by decide +kernel
theorem v0q (v : Nat) (hv : v < 18446744073709551616) : (hexL v).all letU = true ∧ (hexL v).length ≤ 24 ∧ hexL v = 48 :: 120 :: txt 16 v ∧ (b0f (hexL v)) = (v, 0) := by
 obtain ⟨h1, _, _⟩ := h0d 16 (by decide) (by decide) (v + 1) v (by omega)
 have hl := o0j 16 (by decide) 15 v (by omega)
 refine ⟨?_, by unfold hexL; simp; omega, rfl, e1h v hv⟩
 unfold hexL
 rw [List.all_append, Bool.and_eq_true]
 refine ⟨by decide +kernel, List.all_eq_true.2 fun c hc => ?_⟩
 obtain ⟨d, hd, rfl⟩ := h1 c hc
 have : ∀ d, d < 16 → letU (dg d) = true := by decide +kernel
 exact this d hd
theorem l0s (v : Nat) (hv : v < 18446744073709551616) : pcOK (2, hexL v) := by
 obtain ⟨h1, h2, h3, h4⟩ := v0q v hv
 exact .inr (.inr (.inr ⟨rfl, h1, h2, ⟨48, 120 :: txt 16 v, h3, by decide +kernel⟩, by rw [h4]⟩))
theorem d1d {c : Int} (hc : 0 ≤ c ∧ c < 4) : pcOK (2, intL c) := by
 obtain ⟨n, rfl⟩ := Int.eq_ofNat_of_zero_le hc.1
 have : ∀ n, n < 4 → (intL (n : Nat)).all letU = true ∧ (intL (n : Nat)).length ≤ 24 ∧ (b0f (intL (n : Nat))).2 = 0 ∧ f0o ((48 + UInt8.ofNat n).toNat : Int) = true := by decide +kernel
 obtain ⟨h1, h2, h3, h4⟩ := this n (by omega)
 exact .inr (.inr (.inr ⟨rfl, h1, h2, ⟨_, [], a1h n (by omega), h4⟩, h3⟩))
theorem j1k {r : Int} (hr : 0 ≤ r ∧ r < 31) : pcOK (1, regL r) := by
 obtain ⟨n, rfl⟩ := Int.eq_ofNat_of_zero_le hr.1
 obtain ⟨h1, h2, h3, h4⟩ := c1m n (by omega)
 refine .inr (.inr (.inl ⟨rfl, h1, h2, ?_⟩))
 cases hx : regL (n : Nat) with
 | nil => rw [hx] at h3; cases h3
 | cons c l =>
  rw [hx] at h3
  obtain rfl : c = 88 := by simpa using h3
  exact ⟨88, l, rfl, by decide +kernel⟩
abbrev KT := Int × ByteArray
section
variable {tk : List Tk} {k : Nat} {A : Int} {x : KT} {xs : List KT}
end
end
section
open Go.RowKit
theorem b1m : ∀ (n : Nat) (s : ByteArray) (i : Nat) (acc : List (Nat × Nat × Nat)), s.size - i = n → (∀ r ∈ acc, r.1 = 1 → pcOK (1, (s.extract r.2.1 r.2.2).data.toList)) → ∀ r ∈ (b0g s i acc).1, r.1 = 1 → pcOK (1, (s.extract r.2.1 r.2.2).data.toList) := by
 intro n
 induction n using Nat.strongRecOn with
 | _ n ih =>
  intro s i acc hn hacc
  rw [b0g]
  by_cases h : i < s.size
  ·rw [dif_pos h]
   by_cases h9 : (d0t s i).1 = 9
   ·rw [if_pos h9]; intro r hr; simp at hr
   ·rw [if_neg h9]
    by_cases h2 : i < (d0t s i).2.1
    ·rw [dif_pos h2]
     refine ih (s.size - (d0t s i).2.1) (by omega) s _ _ rfl ?_
     by_cases h0 : (d0t s i).1 = 0
     ·rw [if_pos h0]; exact hacc
     ·rw [if_neg h0]
      intro r hr h1
      rcases List.mem_append.1 hr with hr | hr
      ·exact hacc r hr h1
      ·have e : r = ((d0t s i).1, i, (d0t s i).2.1) := by simpa using hr
       subst e
       simp only at h1
       have hs : e0m (bt s i) = true ∧ ¬ 24 < c0f s i - i ∧ f0o (bt s i) = false ∧ (d0t s i).2.1 = c0f s i := by
        unfold d0t at h1 ⊢
        split at h1
        ·cases h1
        rename_i a1
        rw [if_neg a1]
        split at h1
        ·cases h1
        rename_i a2
        rw [if_neg a2]
        split at h1
        ·cases h1
        rename_i a3
        rw [if_neg a3]
        split at h1
        ·cases h1
        rename_i a4
        rw [if_neg a4]
        split at h1
        ·split at h1 <;> cases h1
        rename_i a5
        rw [if_neg a5]
        exact ⟨by simpa using a3, a4, by simpa using a5, rfl⟩
       obtain ⟨q1, q2, q3, q4⟩ := hs
       simp only
       rw [q4] at h2 ⊢
       rw [v0t]
       have hl := x0l s
       have hb := (f1h s i).2 (by omega)
       have hlen := k1f (L := s.data.toList) (Nat.le_of_lt h2) (by omega)
       refine .inr (.inr (.inl ⟨rfl, ?_, by show (seg s.data.toList i (c0f s i)).length ≤ 24; omega, ?_⟩))
       ·rw [List.all_eq_true]
        intro c hc
        obtain ⟨j, hj, e⟩ := List.getElem_of_mem hc
        rw [hlen] at hj
        have hsp := (c1e (j0u s) s.size _ i rfl).1 (i + j) (by omega) (by unfold c0f at hj h2; omega)
        have e2 : s.data.toList[i + j]'(by omega) = c := by
         rw [← e]; simp [seg]
        have hx : (!e0m (bt s (i + j))) = false := hsp
        rw [j1v (by omega), e2] at hx
        simpa [letU] using hx
       ·refine ⟨s.data.toList[i]'(by omega), _, f1s h2 (by omega), ?_⟩
        rw [← j1v (by omega)]; exact q3
    ·rw [dif_neg h2]; intro r hr; simp at hr
  ·rw [dif_neg h]
   intro r hr h1
   rcases List.mem_append.1 hr with hr | hr
   ·exact hacc r hr h1
   ·have e : r = (4, s.size, s.size) := by simpa using hr
    subst e; cases h1
theorem d1a (t : ByteArray) (a : Nat) (s : RS) (h : (a0m (tkOf t a (b0g t 0 []).1) s).1 = 1) : pcOK (1, (a0m (tkOf t a (b0g t 0 []).1) s).2.1.data.toList) := by
 unfold a0m at h ⊢
 rw [List.getD_eq_getElem?_getD] at h ⊢
 rcases hq : (tkOf t a (b0g t 0 []).1)[s.k]? with _ | q
 ·rw [hq] at h; cases h
 ·rw [hq] at h
  have hm := List.mem_of_getElem? hq
  simp only [tkOf, List.mem_map] at hm
  obtain ⟨r, hr, e⟩ := hm
  subst e
  exact b1m _ t 0 [] rfl (by simp) r hr (by have : ((r.1 : Nat) : Int) = 1 := h; omega)
abbrev W64 : Nat := 18446744073709551616
theorem orW {a b : Nat} (ha : a < W64) (hb : b < W64) : a ||| b < W64 := Nat.or_lt_two_pow (n := 64) ha hb
theorem m0a (b : Bool) (n : Nat) (hn : n < 64) : j0w b n < W64 := by
 unfold j0w; split
 ·exact Nat.pow_lt_pow_right (by decide) hn
 ·decide
theorem v0x (t : Bool) (o : Nat) (a b c d : Bool) (l : Nat) : (encD t o a b c d l).1 < W64 := by
 unfold encD
 split
 ·decide
 ·rename_i h
  have ho : o < W64 := by
   have : ¬ 4294967296 ≤ o := fun e => h (.inl e)
   show o < 18446744073709551616; omega
  exact orW (orW (orW ho (by decide)) (m0a _ _ (by decide))) (orW (orW (orW (m0a _ _ (by decide)) (m0a _ _ (by decide))) (m0a _ _ (by decide))) (m0a _ _ (by decide)))
theorem d1s (tk : List Tk) (s : RS) : (litV tk s).1 < W64 := by
 unfold litV
 dsimp only
 split
 ·exact v0x _ _ _ _ _ _ _
 split
 ·exact v0x _ _ _ _ _ _ _
 split
 ·exact v0x _ _ _ _ _ _ _
 ·exact c0k tk s
def u0l (t : CT) : Prop := t.Fits ∧ t0z t = true
theorem i0a {k c r : Int} {a v : Nat} {args : List CT} (h : a < W64 ∧ v < W64 ∧ I64 k ∧ I64 c ∧ I64 r) (hz : zeroT k c r a v args = .mk k c r a v args) (ha : ∀ u ∈ args, u0l u) : u0l (.mk k c r a v args) := by
 refine ⟨.mk h (fun u hu => (ha u hu).1), ?_⟩
 rw [t0z, hz, y0r, Bool.true_and]
 exact q0s args (fun j hj => (ha _ (List.getElem_mem hj)).2)
theorem i64c (k : Int) (h : -100 ≤ k ∧ k ≤ 100) : I64 k := by unfold I64; omega
theorem w0e : u0l cF := i0a ⟨by decide, by decide, i64c _ (by decide), i64c _ (by decide), i64c _ (by decide)⟩ rfl (by simp)
theorem d1v (tk : List Tk) (s : RS) : u0l (h0m tk s).1 := by
 have z : I64 0 := i64c 0 (by decide)
 have z1 : I64 1 := i64c _ (by decide)
 have z2 : I64 2 := i64c _ (by decide)
 have z3 : I64 3 := i64c _ (by decide)
 have z7 : I64 7 := i64c _ (by decide)
 unfold h0m
 split
 ·exact i0a ⟨c0k _ _, c0k _ _, z2, z, z⟩ rfl (by simp)
 split
 ·exact i0a ⟨by decide, by decide, z7, z, z⟩ rfl (by simp)
 split
 ·exact i0a ⟨by decide, c0k _ _, z3, i64c _ (by have := i0n tk (a0t tk s) 4 (by decide); omega), z⟩ rfl (by simp)
 ·refine i0a ⟨by decide, c0k _ _, z1, i64c _ (by have := i0n tk s 4 (by decide); omega), i64c _ ?_⟩ rfl (by simp)
  rcases hq : regN (a0m tk (d0l tk (b0b tk s 4).2 3 ⟨#[58]⟩)).2.1 with _ | j
  ·simp
  ·have := v0a hq
   simp only [Option.getD_some]; omega
def PF.made : PF → Prop
 | .bothL c => u0l c
 | .eitherL c => u0l c
 | _ => True
theorem d0k (tk : List Tk) : ∀ (f : Nat) (F : PF) (s : RS) (m : Nat), F.made → u0l (a0e tk f F s m).1
 | 0, _, s, m, _ => by unfold a0e; exact w0e
 | f + 1, .either, s, m, _ => by simp only [a0e]; exact d0k tk f (.eitherL _) _ _ (d0k tk f .both s m trivial)
 | f + 1, .both, s, m, _ => by simp only [a0e]; exact d0k tk f (.bothL _) _ _ (d0k tk f .one s m trivial)
 | f + 1, .eitherL c, s, m, h => by
  simp only [a0e]; split
  ·refine d0k tk f (.eitherL _) _ _ (i0a ⟨by decide, by decide, i64c _ (by decide), i64c _ (by decide), i64c _ (by decide)⟩ rfl ?_)
   intro u hu
   simp only [List.mem_cons, List.not_mem_nil, or_false] at hu
   rcases hu with rfl | rfl
   ·exact h
   ·exact d0k tk f .both _ _ trivial
  ·exact h
 | f + 1, .bothL c, s, m, h => by
  simp only [a0e]; split
  ·refine d0k tk f (.bothL _) _ _ (i0a ⟨by decide, by decide, i64c _ (by decide), i64c _ (by decide), i64c _ (by decide)⟩ rfl ?_)
   intro u hu
   simp only [List.mem_cons, List.not_mem_nil, or_false] at hu
   rcases hu with rfl | rfl
   ·exact h
   ·exact d0k tk f .one _ _ trivial
  ·exact h
 | f + 1, .one, s, m, _ => by
  simp only [a0e]; split
  ·exact d0k tk f .either _ _ trivial
  ·split
   ·split
    ·refine i0a ⟨by decide, by decide, i64c _ (by decide), i64c _ (by decide), i64c _ (by decide)⟩ rfl ?_
     intro u hu
     have e : u = _ := List.mem_singleton.1 hu
     subst e
     exact d0k tk f .one _ _ trivial
    ·exact d1v tk _
   ·exact w0e
structure Made (x : SrcA) : Prop where
 name : x.after = 0 ∨ pcOK (1, x.name.data.toList)
 tables : ∀ t ∈ x.tables, t < W64
 cells : ∀ p ∈ x.cells, p.1 < W64 ∧ p.2 < W64
 cores : ∀ c ∈ x.cores, (∀ v ∈ c.regs, v < W64) ∧ c.space < 65536 ∧ c.table < W64
 cond : u0l x.cond
theorem made0 : Made src0 := ⟨.inl rfl, by simp [src0], by simp [src0], by simp [src0], w0e⟩
theorem Made.like {x y : SrcA} (h : Made x) (ha : x.after = 0 → y.after = 0) (e1 : y.name = x.name) (e2 : y.tables = x.tables) (e3 : y.cells = x.cells) (e4 : y.cores = x.cores) (e5 : y.cond = x.cond) : Made y :=
 ⟨by rw [e1]; exact h.name.imp ha id, by rw [e2]; exact h.tables, by rw [e3]; exact h.cells, by rw [e4]; exact h.cores, by rw [e5]; exact h.cond⟩
theorem t0h {x : SrcA} (h : Made x) (f : CoreA → CoreA) (hf : ∀ c, ((∀ v ∈ c.regs, v < W64) ∧ c.space < 65536 ∧ c.table < W64) → (∀ v ∈ (f c).regs, v < W64) ∧ (f c).space < 65536 ∧ (f c).table < W64) : Made (k0c x f) := by
 rcases hc : x.cores.getLast? with _ | c
 ·unfold k0c; rw [hc]; exact h
 ·obtain ⟨l, hx⟩ := List.getLast?_eq_some_iff.1 hc
  rw [l0w hx]
  refine ⟨h.name, h.tables, h.cells, fun d hd => ?_, h.cond⟩
  rcases List.mem_append.1 hd with hd | hd
  ·exact h.cores d (by rw [hx]; exact List.mem_append_left _ hd)
  ·have e : d = f c := by simpa using hd
   subst e; exact hf c (h.cores c (by rw [hx]; simp))
theorem h1m {x : SrcA} (h : Made x) (t : ByteArray) (a : Int) : Made (insR x t a).1 := by
 unfold insR
 split
 ·exact h
 ·dsimp only
  split
  ·have k := t0h h (fun c => if x.after = 2 then { c with code := c.code ++ [(f0e t.data.toList).1] } else { c with hand := c.hand ++ [(f0e t.data.toList).1] }) (fun c hc => by split <;> exact hc)
   exact k.like id rfl rfl rfl rfl rfl
  ·exact h
theorem j1r {tk : List Tk} {s : RS} (h : (endR tk s).code = 0) : s.code = 0 := by
 unfold endR at h
 split at h
 ·exact h
 ·exact (i0r tk s 110).code h
theorem u0u {x : SrcA} (h : Made x) (t : ByteArray) (a : Nat) (s : RS) (w : ByteArray) (h0 : ¬ w = j0d → ¬ x.after = 0) (at_ : Int) (hok : (g0p (tkOf t a (b0g t 0 []).1) x s w at_).2.code = 0) : Made (g0p (tkOf t a (b0g t 0 []).1) x s w at_).1 := by
 unfold g0p at hok ⊢
 split at hok
 ·rename_i e; rw [if_pos e]
  unfold r0b at hok ⊢
  refine ⟨.inr ?_, h.tables, h.cells, h.cores, h.cond⟩
  apply d1a
  have hc := (c0z _ _).code hok
  split at hc
  ·rename_i e1; exact e1
  ·exfalso
   unfold d0r at hc
   split at hc
   ·exact absurd hc (by show ¬ (110 : Int) = 0; decide)
   ·rename_i e2; exact e2 hc
 rename_i e; rw [if_neg e]
 have hnm : pcOK (1, x.name.data.toList) := h.name.resolve_left (h0 e)
 split at hok
 ·rename_i e; rw [if_pos e]
  unfold i0m; split
  ·refine ⟨h.name, fun v hv => ?_, h.cells, h.cores, h.cond⟩
   rcases List.mem_append.1 hv with hv | hv
   ·exact h.tables v hv
   ·have e : v = _ := List.mem_singleton.1 hv
    rw [e]; exact c0k _ _
  ·exact h
 rename_i e; rw [if_neg e]
 split at hok
 ·rename_i e; rw [if_pos e]
  unfold m0x; split
  ·refine ⟨h.name, h.tables, fun v hv => ?_, h.cores, h.cond⟩
   rcases List.mem_append.1 hv with hv | hv
   ·exact h.cells v hv
   ·have e : v = _ := List.mem_singleton.1 hv
    rw [e]; exact ⟨c0k _ _, d1s _ _⟩
  ·exact h
 rename_i e; rw [if_neg e]
 split at hok
 ·rename_i e; rw [if_pos e]
  unfold n0n
  refine ⟨.inr hnm, h.tables, h.cells, fun c hc => ?_, h.cond⟩
  ·rcases List.mem_append.1 hc with hc | hc
   ·exact h.cores c hc
   ·have e : c = _ := List.mem_singleton.1 hc
    rw [e]
    refine ⟨fun v hv => by rw [List.eq_of_mem_replicate hv]; decide, ?_, c0k _ _⟩
    have key : ∀ (b : Bool) (r : RS), (if b = true then b0b (tkOf t a (b0g t 0 []).1) r 65536 else (0, r)).1 < 65536 := fun b r => by
     cases b
     ·rw [if_neg (by simp)]; show 0 < 65536; decide
     ·rw [if_pos rfl]; exact i0n _ _ _ (by decide)
    exact key _ _
 rename_i e; rw [if_neg e]
 split at hok
 ·rename_i e; rw [if_pos e]
  unfold f0b
  split
  ·refine t0h h _ (fun c hc => ⟨fun v hv => ?_, hc.2⟩)
   rcases List.mem_or_eq_of_mem_set hv with hv | hv
   ·exact hc.1 v hv
   ·rw [hv]; exact d1s _ _
  ·exact h
 rename_i e; rw [if_neg e]
 split at hok
 ·rename_i e; rw [if_pos e]
  exact ⟨.inr hnm, h.tables, h.cells, h.cores, h.cond⟩
 ·rename_i e; rw [if_neg e]
  exact ⟨.inr hnm, h.tables, h.cells, h.cores, d0k _ _ _ _ _ trivial⟩
theorem f1u {x : SrcA} (h : Made x) (t : ByteArray) (a : Nat) (hok : (rowA x t a).2.1 = 0) : Made (rowA x t a).1 := by
 unfold rowA at hok ⊢
 dsimp only at hok ⊢
 split at hok
 ·exact absurd hok (by show ¬ (110 : Int) = 0; decide)
 rename_i hA
 rw [if_neg hA]
 split at hok
 ·rename_i hB; rw [if_pos hB]; exact h1m h t _
 rename_i hB
 rw [if_neg hB]
 split at hok
 ·rename_i hC; rw [if_pos hC]; exact h
 rename_i hC
 rw [if_neg hC]
 refine u0u h t a _ _ (fun e h1 => hA (.inr ?_)) _ (j1r hok)
 rw [decide_eq_true h1, decide_eq_false e]; simp
theorem s0u (s : ByteArray) : ∀ (l : List (Nat × Nat)) (x : SrcA), Made x → (f0u s x l).2.1 = 0 → Made (f0u s x l).1 ∧ (f0u s x l).1.after = 4
 | [], x, h, h0 => by
  rw [f0u] at h0 ⊢
  split at h0
  ·rename_i h4; rw [if_pos h4]; exact ⟨h, h4⟩
  ·exact absurd h0 (by show ¬ (110 : Int) = 0; decide)
 | r :: l, x, h, h0 => by
  rw [f0u] at h0 ⊢
  try dsimp only at h0 ⊢
  split at h0
  ·rename_i hc
   rw [if_pos hc]
   exact s0u s l _ (f1u h _ _ hc) h0
  ·rename_i hc; exact absurd h0 hc
theorem r0l {s : ByteArray} (h : (litA s).2.1 = 0) : Made (litA s).1 ∧ (litA s).1.after = 4 := by
 obtain ⟨_, hL⟩ := v0l h
 rw [hL] at h ⊢
 exact s0u s _ _ made0 h
end
section
open Go.RowKit
def PF.base : PF → Nat
 | .bothL c => a0u c
 | .eitherL c => a0u c
 | _ => 1
theorem e1p (t : CT) : 1 ≤ a0u t := by cases t; rw [a0u]; omega
theorem i1s (F : PF) : 1 ≤ F.base := by cases F <;> simp [PF.base, e1p]
theorem a1f (tk : List Tk) (s : RS) : a0u (h0m tk s).1 = 1 := by
 unfold h0m
 split
 ·rfl
 split
 ·rfl
 split
 ·rfl
 ·rfl
theorem c0r (tk : List Tk) : ∀ (f : Nat) (F : PF) (s : RS) (m : Nat), a0u (a0e tk f F s m).1 + 2 * m ≤ F.base + 2 * (a0e tk f F s m).2.2
 | 0, F, s, m => by
  have := i1s F
  unfold a0e
  show a0u cF + 2 * m ≤ F.base + 2 * m
  rw [show a0u cF = 1 from rfl]; omega
 | f + 1, .either, s, m => by
  simp only [a0e]
  have h1 := c0r tk f .both s m
  have h2 := c0r tk f (.eitherL (a0e tk f .both s m).1) (a0e tk f .both s m).2.1 (a0e tk f .both s m).2.2
  simp only [PF.base] at h1 h2 ⊢
  omega
 | f + 1, .both, s, m => by
  simp only [a0e]
  have h1 := c0r tk f .one s m
  have h2 := c0r tk f (.bothL (a0e tk f .one s m).1) (a0e tk f .one s m).2.1 (a0e tk f .one s m).2.2
  simp only [PF.base] at h1 h2 ⊢
  omega
 | f + 1, .eitherL c, s, m => by
  simp only [a0e]
  split
  ·have h1 := c0r tk f .both (c0p tk (a0t tk s) m) (m + 1)
   generalize a0e tk f .both (c0p tk (a0t tk s) m) (m + 1) = y at *
   have h2 := c0r tk f (.eitherL (.mk 5 0 0 0 0 [c, y.1])) y.2.1 y.2.2
   simp only [PF.base, a0u, b0s] at h1 h2 ⊢
   omega
  ·simp [PF.base]
 | f + 1, .bothL c, s, m => by
  simp only [a0e]
  split
  ·have h1 := c0r tk f .one (c0p tk (a0t tk s) m) (m + 1)
   generalize a0e tk f .one (c0p tk (a0t tk s) m) (m + 1) = y at *
   have h2 := c0r tk f (.bothL (.mk 4 0 0 0 0 [c, y.1])) y.2.1 y.2.2
   simp only [PF.base, a0u, b0s] at h1 h2 ⊢
   omega
  ·simp [PF.base]
 | f + 1, .one, s, m => by
  simp only [a0e]
  split
  ·have h1 := c0r tk f .either (a0t tk s) m
   simp only [PF.base] at h1 ⊢
   omega
  ·split
   ·split
    ·have h1 := c0r tk f .one (a0t tk (c0p tk s m)) (m + 1)
     generalize a0e tk f .one (a0t tk (c0p tk s m)) (m + 1) = y at *
     simp only [PF.base, a0u, b0s] at h1 ⊢
     omega
    ·rw [a1f]; simp only [PF.base]; omega
   ·rw [show a0u cF = 1 from rfl]; simp only [PF.base]; omega
theorem a1e (tk : List Tk) (s : RS) : a0u (g0t tk s).1 ≤ 133 := by
 unfold g0t
 have h1 := c0r tk (4 * tk.length + 3) .either s 0
 have h2 := (c0q tk (4 * tk.length + 3) .either s 0 ⟨by simp, fun _ => by simp⟩).1
 simp only [PF.base] at h1 ⊢
 omega
theorem q0e (x : SrcA) (f : CoreA → CoreA) : (k0c x f).cond = x.cond := by
 unfold k0c; split <;> rfl
theorem k1j {x : SrcA} (h : a0u x.cond ≤ 133) (t : ByteArray) (a : Nat) : a0u (rowA x t a).1.cond ≤ 133 := by
 unfold rowA
 dsimp only
 split
 ·exact h
 split
 ·unfold insR
  split
  ·exact h
  ·dsimp only
   split
   ·show a0u (k0c x _).cond ≤ 133
    rw [q0e]; exact h
   ·exact h
 split
 ·exact h
 ·unfold g0p
  split
  ·exact h
  split
  ·unfold i0m; split <;> exact h
  split
  ·unfold m0x; split <;> exact h
  split
  ·exact h
  split
  ·unfold f0b
   split
   ·dsimp only; rw [q0e]; exact h
   ·exact h
  split
  ·exact h
  ·exact a1e _ _
theorem w0x (s : ByteArray) : ∀ (l : List (Nat × Nat)) (x : SrcA), a0u x.cond ≤ 133 → a0u (f0u s x l).1.cond ≤ 133
 | [], x, h => by
  unfold f0u
  split
  ·exact h
  ·show a0u cF ≤ 133; decide
 | r :: l, x, h => by
  unfold f0u
  dsimp only
  split
  ·exact w0x s l _ (k1j h _ _)
  ·show a0u cF ≤ 133; decide
theorem k1v (s : ByteArray) : a0u (litA s).1.cond ≤ 133 := by
 unfold litA
 split
 ·exact w0x s _ _ (by decide)
 ·show a0u cF ≤ 133; decide
theorem z0x {s : ByteArray} (h : (litA s).2.1 = 0) (hs : Sizes (litA s).1 20000) : GSizes (gsrc (litA s).1) := by
 obtain ⟨hm, _⟩ := r0l h
 have hc := k1v s
 generalize (litA s).1 = x at *
 refine ⟨hs.cells, by simpa [gsrc] using hs.cores, hs.tables, ?_, ?_, ?_, ?_, ?_, ?_, ?_, ?_, ?_, ?_⟩
 ·have := hs.pT; show x.pT.length ≤ _; unfold maxLen; omega
 ·have := hs.pC; show x.pC.length ≤ _; unfold maxLen; omega
 ·have := hs.pCo; show x.pCo.length ≤ _; unfold maxLen; omega
 ·have := hs.pI; show x.pI.length ≤ _; unfold maxLen; omega
 ·intro q hq; have := hs.ins q hq; unfold maxLen; omega
 ·intro c hcm
  obtain ⟨d, hd, rfl⟩ := List.mem_map.1 (show c ∈ x.cores.map k0w from hcm)
  have := hs.code d hd
  exact ⟨this.1, this.2.1, by show d.regs.length ≤ _; omega⟩
 ·exact hm.tables
 ·exact hm.cells
 ·intro c hcm
  obtain ⟨d, hd, rfl⟩ := List.mem_map.1 (show c ∈ x.cores.map k0w from hcm)
  have := hm.cores d hd
  exact ⟨this.2.2, this.1⟩
 ·show a0u x.cond ≤ _; omega
end
section
open Go.RowKit
theorem Parts.grd {w : World} {f : Nat → Nat} {B : Nat} {x : SrcA} {v : SrcV} (h : Parts w f B x v) (hs : GSizes (gsrc x)) : GRd w (gsrc x) v := by
 have own : ∀ {l : Nat} {e : TypeId} {size : Nat} {v : Value} {n : Nat} {xs : List Value}, OwnL w f B l e size v n xs → RdV w size v n xs := fun h => by
  exact Rds.of_own h.1
 have hl : (gsrc x).cores.length = x.cores.length := by simp [gsrc]
 have e : ∀ (i : Nat) (h : i < x.cores.length), (gsrc x).cores[i]'(by rw [hl]; exact h) = k0w x.cores[i] := fun i h => by simp [gsrc]
 refine ⟨own h.cells, ?_, by rw [h.lenc, hl], fun i h1 h2 => ?_, ⟨_, h.cond⟩, own h.tables, own h.pT, own h.pC, own h.pCo, own h.pI, h.leni, fun i h1 h2 => own (h.ins i h1 h2), hs⟩
 ·rw [hl]; show RdV w 5 v.vCo _ (k0f v.cvs (x.cores.map k0w)); rw [n0i]; exact own h.cores
 ·have q := h.core i (by rw [← hl]; exact h1) h2
  rw [e i (by rw [← hl]; exact h1)]
  exact ⟨own q.1, own q.2.1, own q.2.2⟩
end
section
open Go.RowKit
theorem p0b {w : World} {f : Nat → Nat} {B g n : Nat} {x : SrcA} {v : SrcV} (hS : ST w f B g n x v) (h0 : x.cores.length = 0) :
  Calls Tryz.prog 122 #[.pointer (some ⟨g, 0, none⟩)] w fun e w' => e = .returned (.pointer none) ∧ w' = w := by
 obtain ⟨pT, cT, hvT, _⟩ := a0i hS.parts.cores.1
 have c2 := hS.blk.cell 2
 have hgl := hS.lt
 simp only [stC, gz_, gs_] at c2
 rw [hvT, h0] at c2
 clear hS h0 hvT
 go_enter Tryz.func122, Tryz.ntmps122
 go_wp2_with fail
 go_ret
 exact ⟨rfl, rfl⟩
theorem h0n {w : World} {f : Nat → Nat} {B g n : Nat} {x : SrcA} {v : SrcV} (hS : ST w f B g n x v) (m : Nat) (h0 : x.cores.length = m + 1) (gc cap : Nat) (hv : v.vCo = .slice (some ⟨gc, 0, none⟩) (m + 1) cap) :
  Calls Tryz.prog 122 #[.pointer (some ⟨g, 0, none⟩)] w fun e w' => e = .returned (.pointer (some ⟨gc, m * 5, none⟩)) ∧ w' = w := by
 have c2 := hS.blk.cell 2
 have hgl := hS.lt
 simp only [stC, gz_, gs_] at c2
 rw [hv] at c2
 have hm : m ≤ 20000 := by have := hS.sizes.cores; have := hS.small; omega
 have hw : IntKind.i64.wrap (((m : Int) + 1) - 1) = (m : Int) := by simp [IntKind.wrap, IntKind.bits, IntKind.signed]; omega
 have hp : decide ((0 : Int) < (m : Int) + 1) = true := decide_eq_true (by omega)
 clear hS h0 hv
 go_enter Tryz.func122, Tryz.ntmps122
 go_wp2_with fail
 go_ret
 exact ⟨by simp, rfl⟩
end
end Go.Proofs.YtmnojnopejhebaaGreat
