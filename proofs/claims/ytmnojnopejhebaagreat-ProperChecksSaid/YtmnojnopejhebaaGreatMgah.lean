/- isa.Right, exactly: the walk. -/
import Derived.Test.YtmnojnopejhebaaGreatMgaa
import Derived.Test.YtmnojnopejhebaaGreatMgab
import Derived.Test.YtmnojnopejhebaaGreatMgac
import Derived.Test.YtmnojnopejhebaaGreatMgad
import Derived.Test.YtmnojnopejhebaaGreatMgag
import Derived.Laws.Rows
namespace Go.Proofs.YtmnojnopejhebaaGreat
set_option linter.unusedVariables false
set_option linter.unusedSimpArgs false
set_option maxRecDepth 100000
set_option maxHeartbeats 25600000
section
open Go.RowKit
theorem l1w : El Tryz.prog 112 114 (.agg #[.string ⟨#[]⟩, .int .i64 0]) 2 24 := ⟨Tryz.underlying112, by kernel_rfl⟩
def f0t (s : ByteArray) (l : List (Nat × Nat)) : List Value := l.flatMap fun r => [.string (s.extract r.1 r.2), .int .i64 (r.1 : Nat)]
theorem r0q (s : ByteArray) (l : List (Nat × Nat)) (a e : Nat) : f0t s (l ++ [(a, e)]) = f0t s l ++ [.string (s.extract a e), .int .i64 (a : Nat)] := by simp [f0t]
theorem m0e {s : ByteArray} {a e : Nat} (h : ¬ a < e) : s.extract a e = ByteArray.empty := by
 apply ByteArray.ext; simp; omega
def i0d (s : ByteArray) (w : World) (k : Nat) (f : Nat) (v : Value) (acc : List (Nat × Nat)) (wr : World) : Prop :=
 f ≤ k ∧ acc.length ≤ f ∧ scan (nlB s) s.size k = scan (nlB s) s.size f ∧ h0j s f acc = h0j s 0 [] ∧ wr.ownsRow w.heap.size 114 2 v acc.length (f0t s acc) ∧ Below w.heap.size w wr
theorem h0i {s : ByteArray} {w : World} {k f : Nat} {v : Value} {acc : List (Nat × Nat)} {wr w2 : World} (h : i0d s w k f v acc wr) (hb : Below wr.heap.size wr w2) : i0d s w k f v acc w2 := by
 obtain ⟨h1, h2, h3, h4, h5, h6⟩ := h
 exact ⟨h1, h2, h3, h4, own_below h5 hb, bt_ h6 hb⟩
theorem v0k {s : ByteArray} {w : World} {k f : Nat} {v : Value} {acc : List (Nat × Nat)} {wr : World} (hk : s.size < k) (h : i0d s w k f v acc wr) : wr.ownsRow w.heap.size 114 2 v (h0j s 0 []).length (f0t s (h0j s 0 [])) ∧ Below w.heap.size w wr := by
 obtain ⟨h1, h2, h3, h4, h5, h6⟩ := h
 have hf : ¬ f ≤ s.size := by
  intro hf
  have := (j0j (nlB s) s.size _ f rfl).2 hf
  rw [← h3, e0w (by omega)] at this
  omega
 rw [k0f hf] at h4
 rw [← h4]; exact ⟨h5, h6⟩
theorem n0i {s : ByteArray} {w : World} {k f : Nat} {v : Value} {acc : List (Nat × Nat)} {wr : World} (h : i0d s w k f v acc wr) (hs : scan (nlB s) s.size k = k) (hab : ¬ c0j s f k < c0q s f k) : i0d s w (k + 1) (k + 1) v acc wr := by
 obtain ⟨h1, h2, h3, h4, h5, h6⟩ := h
 refine ⟨Nat.le_refl _, by omega, rfl, ?_, h5, h6⟩
 by_cases hf : f ≤ s.size
 ·rw [← h4, k0u (f := f) hf, ← h3, hs, if_neg hab]
 ·rw [← h4, k0f hf, k0f (by omega)]
theorem o0w {s : ByteArray} {w : World} {k f : Nat} {v v' : Value} {acc : List (Nat × Nat)} {wr w' : World} (h : i0d s w k f v acc wr) (hs : scan (nlB s) s.size k = k) (hab : c0j s f k < c0q s f k)
  (ho : w'.ownsRow w.heap.size 114 2 v' (acc.length + 1) (f0t s acc ++ [.string (s.extract (c0j s f k) (c0q s f k)), .int .i64 (c0j s f k : Nat)])) (hb : Below w.heap.size wr w') : i0d s w (k + 1) (k + 1) v' (acc ++ [(c0j s f k, c0q s f k)]) w' := by
 obtain ⟨h1, h2, h3, h4, h5, h6⟩ := h
 have hfs : f ≤ s.size ∨ s.size < f := by omega
 refine ⟨Nat.le_refl _, by simp; omega, rfl, ?_, by rw [r0q, List.length_append]; exact ho, h6.trans hb⟩
 rcases hfs with hf | hf
 ·rw [← h4, k0u (f := f) hf, ← h3, hs, if_pos hab]
 ·exfalso
  rw [e0w (i := f) (by omega), hs] at h3
  subst h3
  have := n0w s k k (Nat.le_refl _)
  have := s0c s k k (Nat.le_refl _)
  omega
theorem m0f : ByteArray.empty.toList.isEmpty = true := by rw [e0v]; rfl
theorem n0n {k : Nat} {s : ByteArray} {a b : Nat} (h : a < b) (h1 : b ≤ k) (h2 : k ≤ s.size) : (s.extract a b).toList.isEmpty = false := by
 rw [e0v]
 have : 0 < (s.extract a b).data.toList.length := by simp; omega
 cases hl : (s.extract a b).data.toList with
 | nil => rw [hl] at this; simp at this
 | cons x l => rfl
theorem z0f {s : ByteArray} {w : World} {k f : Nat} {v : Value} {acc : List (Nat × Nat)} {wr : World} (hlt : k < s.size) (h10 : ((s[k].toNat : Int) == 10) = false) (h : i0d s w k f v acc wr) : i0d s w (k + 1) f v acc wr := by
 obtain ⟨h1, h2, h3, h4⟩ := h
 exact ⟨by omega, h2, by rw [← h3]; exact (f0f hlt (by unfold nlB; rw [l0e hlt]; exact h10)).symm, h4⟩
theorem h1e (s : ByteArray) (w : World) (hs : s.size ≤ 140737488351232) (hs2 : s.size * 24 ≤ 140737488351232) :
  Calls Tryz.prog 56 #[.string s] w fun e w' => ∃ v, e = .returned v ∧ w'.ownsRow w.heap.size 114 2 v (h0j s 0 []).length (f0t s (h0j s 0 [])) ∧ Below w.heap.size w w' := by
 have H0 := h_ (show i0d s w 0 0 (.slice none 0 0) [] w from ⟨Nat.le_refl _, Nat.le_refl _, rfl, rfl, World.ownsRow_nil _ _ _ _, Below.refl _ _⟩)
 go_enter Tryz.func56, Tryz.ntmps56
 go_wp2_with fail
 go_loopw [3, 4, 5] (fun v f i wr => ∃ (k f' : Nat) (acc : List (Nat × Nat)), k ≤ s.size + 1 ∧ i = .int .i64 k ∧ f = .int .i64 f' ∧ i0d s w k f' v acc wr) (fun _ _ i _ => s.size + 1 - (intOf i).toNat)
 case atStart => exact ⟨0, 0, [], by omega, rfl, rfl, H0.out⟩
 case round =>
  obtain ⟨k, f', acc, hk, rfl, rfl, hI⟩ := hrel
  have HI := h_ hI
  have HFK := h_ hI.1
  clear hI
  by_cases hle : k ≤ s.size
  ·by_cases hlt : k < s.size
   ·cases h10 : ((s[k].toNat : Int) == 10)
    ·have n10 : ((s[k].toNat : Int) != 10) = true := by simp only [bne, h10, Bool.not_false]
     go_wp2_with fail
     go_roundw
     case rel => exact ⟨k + 1, f', acc, by omega, by go_num, rfl, z0f hlt h10 HI.out⟩
     case measure => simp [intOf] <;> omega
    ·have n10 : ((s[k].toNat : Int) != 10) = false := by simp only [bne, h10, Bool.not_true]
     have HST := h_ (show scan (nlB s) s.size k = k from h0h hlt (by unfold nlB; rw [l0e hlt]; exact h10))
     go_wp2_with fail
     refine (x0d s f' k _ hs HFK.out hle).mono ?_
     rintro e w2 ⟨rfl, hb2⟩
     have HI2 := h_ (h0i HI.out hb2)
     clear hb2 HI
     by_cases hab : c0j s f' k < c0q s f' k
     ·have HIN := h_ (fun v' w' => o0w (v' := v') (w' := w') HI2.out HST.out hab)
      have hemp : (s.extract (c0j s f' k) (c0q s f' k)).toList.isEmpty = false := n0n hab (n0w s f' k HFK.out).2 hle
      have hacc : acc.length ≤ s.size := by have := HI2.out; have := HFK.out; have := HI2.out.2.1; omega
      generalize c0j s f' k = a at *
      generalize c0q s f' k = b at *
      clear hab
      obtain ⟨p, c, rfl, _⟩ := a0z HI2.out.2.2.2.2.1
      have HO := h_ HI2.out.2.2.2.2.1
      have HZ := h_ HI2.out.2.2.2.2.2.size
      clear HI2
      go_wp2_with (at_builtin; refine n0u rfl _ _ 112 rfl w.heap.size 114 _ 2 24 l1w rfl (by decide) _ _ _ rfl (HO.out.alloc _) [.string (s.extract a b), .int .i64 a] rfl _ rfl (by simp) (by simp [Value.oneCell']) ?c1 ?c2 ?c3 ?_)
      case c1 => unfold maxLen; omega
      case c2 => omega
      case c3 => simp; have := HZ.out; omega
      intro v' w' ho' _ hb'
      have HIF := h_ (HIN.out v' w' ho' (((Below.refl _ _).alloc HZ.out _).trans hb'))
      clear ho' hb' HO HIN HZ
      go_wp2
      go_roundw
      case rel => exact ⟨k + 1, k + 1, _, by omega, by go_num, rfl, HIF.out⟩
      case measure => simp [intOf] <;> omega
     ·have hemp : (s.extract (c0j s f' k) (c0q s f' k)).toList.isEmpty = true := by rw [m0e hab]; exact m0f
      have HIF := h_ (n0i HI2.out HST.out hab)
      generalize c0j s f' k = a at *
      generalize c0q s f' k = b at *
      clear hab HI2
      go_wp2
      go_roundw
      case rel => exact ⟨k + 1, k + 1, _, by omega, by go_num, rfl, h0i HIF.out (bl_ (Below.refl _ _) _)⟩
      case measure => simp [intOf] <;> omega
   ·obtain rfl : k = s.size := by omega
    have HST := h_ (show scan (nlB s) s.size s.size = s.size from e0w (by omega))
    go_wp2_with fail
    refine (x0d s f' s.size _ hs HFK.out hle).mono ?_
    rintro e w2 ⟨rfl, hb2⟩
    have HI2 := h_ (h0i HI.out hb2)
    clear hb2 HI
    by_cases hab : c0j s f' s.size < c0q s f' s.size
    ·have HIN := h_ (fun v' w' => o0w (v' := v') (w' := w') HI2.out HST.out hab)
     have hemp : (s.extract (c0j s f' s.size) (c0q s f' s.size)).toList.isEmpty = false := n0n hab (n0w s f' s.size HFK.out).2 hle
     have hacc : acc.length ≤ s.size := by have := HI2.out; have := HFK.out; have := HI2.out.2.1; omega
     generalize c0j s f' s.size = a at *
     generalize c0q s f' s.size = b at *
     clear hab
     obtain ⟨p, c, rfl, _⟩ := a0z HI2.out.2.2.2.2.1
     have HO := h_ HI2.out.2.2.2.2.1
     have HZ := h_ HI2.out.2.2.2.2.2.size
     clear HI2
     go_wp2_with (at_builtin; refine n0u rfl _ _ 112 rfl w.heap.size 114 _ 2 24 l1w rfl (by decide) _ _ _ rfl (HO.out.alloc _) [.string (s.extract a b), .int .i64 a] rfl _ rfl (by simp) (by simp [Value.oneCell']) ?c1 ?c2 ?c3 ?_)
     case c1 => unfold maxLen; omega
     case c2 => omega
     case c3 => simp; have := HZ.out; omega
     intro v' w' ho' _ hb'
     have HIF := h_ (HIN.out v' w' ho' (((Below.refl _ _).alloc HZ.out _).trans hb'))
     clear ho' hb' HO HIN HZ
     go_wp2
     go_roundw
     case rel => exact ⟨s.size + 1, s.size + 1, _, by omega, by go_num, rfl, HIF.out⟩
     case measure => simp [intOf] <;> omega
    ·have hemp : (s.extract (c0j s f' s.size) (c0q s f' s.size)).toList.isEmpty = true := by rw [m0e hab]; exact m0f
     have HIF := h_ (n0i HI2.out HST.out hab)
     generalize c0j s f' s.size = a at *
     generalize c0q s f' s.size = b at *
     clear hab HI2
     go_wp2
     go_roundw
     case rel => exact ⟨s.size + 1, s.size + 1, _, by omega, by go_num, rfl, h0i HIF.out (bl_ (Below.refl _ _) _)⟩
     case measure => simp [intOf] <;> omega
  ·have HE := h_ (v0k (by omega) HI.out)
   obtain ⟨h2, h3⟩ := HE.out
   have HO := h_ h2
   have HB := h_ h3
   clear h2 h3 HE HI
   go_wp2
   go_ret
   exact ⟨_, rfl, HO.out, HB.out⟩
end
section
open Go.RowKit
structure CoreA where
 regs : List Nat
 space : Nat
 table : Nat
 code : List Ins
 hand : List Ins
structure SrcA where
 name : ByteArray
 cells : List (Nat × Nat)
 cores : List CoreA
 fa : Bool
 cond : CT
 tables : List Nat
 pT : List Int
 pC : List Int
 pCo : List Int
 pI : List (List Int)
 pCond : Int
 after : Nat
def src0 : SrcA := ⟨⟨#[]⟩, [], [], false, cF, [], [], [], [], [], 0, 0⟩
def j0i : ByteArray := ⟨#[116, 101, 115, 116]⟩
def h0a : ByteArray := ⟨#[116, 97, 98, 108, 101]⟩
def y0s : ByteArray := ⟨#[99, 101, 108, 108]⟩
def y0r : ByteArray := ⟨#[99, 111, 114, 101]⟩
def wReg : ByteArray := ⟨#[114, 101, 103]⟩
def k0t : ByteArray := ⟨#[104, 97, 110, 100, 108, 101, 114]⟩
def r0o : ByteArray := ⟨#[101, 120, 105, 115, 116, 115]⟩
def o0q : ByteArray := ⟨#[102, 111, 114, 97, 108, 108]⟩
def keyB (w : ByteArray) : Bool := decide (w = j0i) || decide (w = h0a) || decide (w = y0s) || decide (w = y0r) || decide (w = wReg) || decide (w = k0t) || decide (w = r0o) || decide (w = o0q)
def e0b (s : RS) (c at_ : Int) : RS := if s.code = 0 then { s with code := c, at_ := at_ } else s
def wIsR (tk : List Tk) (s : RS) (t : ByteArray) : Bool × RS := (isR tk s 1 t, if isR tk s 1 t then a0v tk s else s)
def d0q (table : Bool) (level : Nat) : Nat := if level = 1 ∧ table = false then 21 else 12
def k0c (b : Bool) (n : Nat) : Nat := if b then 2 ^ n else 0
def encD (table : Bool) (out : Nat) (used ro user own : Bool) (level : Nat) : Nat × Nat :=
 if 4294967296 ≤ out ∨ ¬ out % 2 ^ d0q table level = 0 then (0, 70)
 else ((out ||| 1 ||| k0c (table || decide (level = 2)) 1) ||| (((k0c used 10 ||| k0c ro 7) ||| k0c user 6) ||| k0c own 11), 0)
structure FlA where
 used : Bool
 ro : Bool
 user : Bool
 own : Bool
def c0n (tk : List Tk) (s : RS) : FlA × RS :=
 let a := wIsR tk s ⟨#[117, 110, 117, 115, 101, 100]⟩
 let b := wIsR tk a.2 ⟨#[114, 111]⟩
 let c := wIsR tk b.2 ⟨#[117, 115, 101, 114]⟩
 let d := wIsR tk c.2 ⟨#[111, 119, 110]⟩
 (⟨!a.1, b.1, c.1, d.1⟩, d.2)
def encR (tk : List Tk) (s : RS) (x : Nat × Nat) : Nat × RS := (x.1, if x.2 = 0 then s else e0e tk s x.2)
def litV (tk : List Tk) (s : RS) : Nat × RS :=
 let a := wIsR tk s ⟨#[116, 111]⟩
 if a.1 then
  let n := a0c tk a.2
  encR tk n.2 (encD true n.1 false false false false 1)
 else
  let b := wIsR tk s ⟨#[98, 108, 111, 99, 107]⟩
  if b.1 then
   let n := a0c tk b.2
   let f := c0n tk n.2
   encR tk f.2 (encD false n.1 f.1.used f.1.ro f.1.user f.1.own 1)
  else
   let c := wIsR tk s ⟨#[112, 97, 103, 101]⟩
   if c.1 then
    let n := a0c tk c.2
    let f := c0n tk n.2
    encR tk f.2 (encD false n.1 f.1.used f.1.ro f.1.user f.1.own 2)
   else a0c tk s
def r0p (tk : List Tk) (x : SrcA) (s : RS) : SrcA × RS := ({ x with name := (a0p tk s).2.1, after := 1 }, a0v tk (if (a0p tk s).1 = 1 then s else e0e tk s 110))
def i0s (tk : List Tk) (x : SrcA) (s : RS) (at_ : Int) : SrcA × RS :=
 if x.after = 1 then ({ x with tables := x.tables ++ [(a0c tk s).1], pT := x.pT ++ [at_] }, (a0c tk s).2) else (x, e0b s 110 at_)
def n0b (tk : List Tk) (x : SrcA) (s : RS) (at_ : Int) : SrcA × RS :=
 if x.after = 1 then
  let a := a0c tk s
  let v := litV tk (d0z tk a.2 3 ⟨#[61]⟩)
  ({ x with cells := x.cells ++ [(a.1, v.1)], pC := x.pC ++ [at_] }, v.2)
 else (x, e0b s 110 at_)
def n0s (tk : List Tk) (x : SrcA) (s : RS) (at_ : Int) : SrcA × RS :=
 let a := b0d tk s 65536
 let s1 := if a.1 = x.cores.length then a.2 else e0b a.2 110 at_
 let b := wIsR tk s1 ⟨#[115, 112, 97, 99, 101]⟩
 let c := if b.1 then b0d tk b.2 65536 else (0, b.2)
 let d := a0c tk (d0z tk c.2 1 h0a)
 ({ x with cores := x.cores ++ [⟨List.replicate 31 0, c.1, d.1, [], []⟩], pCo := x.pCo ++ [at_], pI := x.pI ++ [[]], after := 2 }, d.2)
def k0n (x : SrcA) (f : CoreA → CoreA) : SrcA := match x.cores.getLast? with | none => x | some c => { x with cores := x.cores.dropLast ++ [f c] }
def m0o (tk : List Tk) (x : SrcA) (s : RS) : Bool :=
 decide ((a0p tk s).1 = 1) && (match regN (a0p tk s).2.1 with | some j => decide (¬ j = 31) | none => false) && (match x.cores.getLast? with | some c => c.code.isEmpty | none => false) && decide (x.after = 2)
def f0k (tk : List Tk) (x : SrcA) (s : RS) : SrcA × RS :=
 if m0o tk x s then
  let v := litV tk (d0z tk (a0v tk s) 3 ⟨#[61]⟩)
  (k0n x fun c => { c with regs := c.regs.set ((regN (a0p tk s).2.1).getD 0) v.1 }, v.2)
 else (x, e0e tk s 110)
def t0w (x : SrcA) (s : RS) (at_ : Int) : SrcA × RS := ({ x with after := 3 }, if x.after = 2 then s else e0b s 110 at_)
def a1x (tk : List Tk) (x : SrcA) (s : RS) (fa : Bool) (at_ : Int) : SrcA × RS := ({ x with fa := fa, cond := (h0d tk s).1, pCond := at_, after := 4 }, (h0d tk s).2)
def q0e (l : List (List Int)) (at_ : Int) : List (List Int) := match l.getLast? with | none => l | some q => l.dropLast ++ [q ++ [at_]]
def insR (x : SrcA) (t : ByteArray) (at_ : Int) : SrcA × Int × Int :=
 match x.cores.getLast? with
 | none => (x, 110, at_)
 | some c =>
  let i := f0o t.data.toList
  if i.2 = 0 then ({ k0n x (fun c => if x.after = 2 then { c with code := c.code ++ [i.1] } else { c with hand := c.hand ++ [i.1] }) with pI := q0e x.pI at_ }, 0, 0)
  else (x, i.2, at_)
def g0y (tk : List Tk) (x : SrcA) (s : RS) (w : ByteArray) (at_ : Int) : SrcA × RS :=
 if w = j0i then r0p tk x s
 else if w = h0a then i0s tk x s at_
 else if w = y0s then n0b tk x s at_
 else if w = y0r then n0s tk x s at_
 else if w = wReg then f0k tk x s
 else if w = k0t then t0w x s at_
 else a1x tk x s (decide (w = o0q)) at_
def rowA (x : SrcA) (t : ByteArray) (at_ : Nat) : SrcA × Int × Int :=
 let w := t.extract 0 (c0t t 0)
 if x.after = 4 ∨ ¬ (decide (x.after = 0) = decide (w = j0i)) then (x, 110, at_)
 else if keyB w = false then insR x t at_
 else if ¬ (b0j t 0 []).2.1 = 0 then (x, (((b0j t 0 []).2.1 : Nat) : Int), g0r at_ (b0j t 0 []))
 else
  let tk := tkOf t at_ (b0j t 0 []).1
  let y := g0y tk x (a0v tk ⟨0, 0, 0⟩) w at_
  (y.1, (endR tk y.2).code, (endR tk y.2).at_)
def g0b (s : ByteArray) : SrcA → List (Nat × Nat) → SrcA × Int × Int
 | x, [] => if x.after = 4 then (x, 0, 0) else (src0, 110, s.size)
 | x, r :: l =>
  let y := rowA x (s.extract r.1 r.2) r.1
  if y.2.1 = 0 then g0b s y.1 l else (src0, y.2)
def litA (s : ByteArray) : SrcA × Int × Int :=
 if (f0i s).1 = 0 then g0b s src0 (h0j s 0 []) else (src0, f0i s)
end
section
open Go.RowKit
theorem CT.ind {P : CT → Prop} (h : ∀ k c r a v args, (∀ u ∈ args, P u) → P (.mk k c r a v args)) : ∀ t, P t
 | .mk k c r a v args => h k c r a v args (fun u hu => CT.ind h u)
termination_by t => t
decreasing_by
 have := List.sizeOf_lt_of_mem hu
 simp
 omega
def CT.args : CT → List CT
 | .mk _ _ _ _ _ args => args
theorem CT.Row.part {w : World} {S : Nat → Prop} {p : Option Addr} {ts : List CT} (h : CT.Row w S p 0 ts) {j : Nat} (hj : j < ts.length) :
  ∃ (g off : Nat) (k c r a v : Int) (q : Option Addr) (l cp : Nat), p = some ⟨g, off, none⟩ ∧ w.cell? ⟨g, off + j * 6, none⟩ = some (.int .i64 k) ∧ w.cell? ⟨g, off + j * 6 + 1, none⟩ = some (.int .i64 c) ∧ w.cell? ⟨g, off + j * 6 + 2, none⟩ = some (.int .i64 r) ∧ w.cell? ⟨g, off + j * 6 + 3, none⟩ = some (.int .u64 a) ∧ w.cell? ⟨g, off + j * 6 + 4, none⟩ = some (.int .u64 v) ∧ w.cell? ⟨g, off + j * 6 + 5, none⟩ = some (.slice q l cp) ∧ CT.At w S ts[j] [.int .i64 k, .int .i64 c, .int .i64 r, .int .u64 a, .int .u64 v, .slice q l cp] := by
 obtain ⟨g, off, es, h1, h2, h3, h4, h5⟩ := h.at_ hj
 have h5' := h5
 generalize ts[j] = u at h5 h5'
 obtain ⟨k, c, r, a, v, args⟩ := u
 unfold CT.At at h5'
 obtain ⟨q, cap, rfl, _⟩ := h5'
 rw [Nat.zero_add] at h4
 exact ⟨g, off, k, c, r, a, v, q, args.length, cap, h1, h4 0 (by omega), h4 1 (by omega), h4 2 (by omega), h4 3 (by omega), h4 4 (by omega), h4 5 (by omega), h5⟩
theorem CT.At.own {w : World} {S : Nat → Prop} {k c r : Int} {a v : Nat} {args : List CT} {cs : List Value} (h : CT.At w S (.mk k c r a v args) cs) :
  ∃ (p : Option Addr) (cap : Nat), cs = [.int .i64 k, .int .i64 c, .int .i64 r, .int .u64 (a : Nat), .int .u64 (v : Nat), .slice p args.length cap] ∧ args.length ≤ cap ∧ cap ≤ maxLen ∧ a < 18446744073709551616 ∧ (v < 18446744073709551616 ∧ I64 k ∧ I64 c ∧ I64 r) ∧ CT.Row w S p 0 args := by
 unfold CT.At at h
 exact h
theorem CT.Row.below {w w' : World} {S : Nat → Prop} {p : Option Addr} {i : Nat} {ts : List CT} (h : CT.Row w S p i ts) (hb : Below w.heap.size w w') : CT.Row w' S p i ts :=
 CT.Row.keep (fun a v _ hc => (hb.cell (World.block_lt_of_cell? w a hc)).trans hc) p i ts h
theorem k0j (w : World) (L : Array Value) : Blk (w.alloc (.cells L 29)) 29 w.heap.size L.toList := by
 have := Blk.new w 29 L.toList
 simpa using this
theorem b0z {w : World} {g : Nat} {a b c d e f : Value} (h : Blk w 29 g [a, b, c, d, e, f]) :
  w.cell? ⟨g, 0, none⟩ = some a ∧ w.cell? ⟨g, 1, none⟩ = some b ∧ w.cell? ⟨g, 2, none⟩ = some c ∧ w.cell? ⟨g, 3, none⟩ = some d ∧ w.cell? ⟨g, 4, none⟩ = some e ∧ w.cell? ⟨g, 5, none⟩ = some f :=
 ⟨h.cell 0, h.cell 1, h.cell 2, h.cell 3, h.cell 4, h.cell 5⟩
theorem CT.At.drew {w : World} {S : Nat → Prop} {t : CT} {cs : List Value} (h : CT.At w S t cs) : CT.At w.drew S t cs := h.below (Below.refl _ _).drew
theorem a0f {w w' : World} {p : Addr} {u : Value} (h : w.cell? p = some u) (hb : Below w.drew.heap.size w.drew w') : w'.cell? p = some u := cell_below (show w.drew.cell? p = some u from h) hb
theorem s0j {w : World} {T : TypeId} {g : Nat} {cs : List Value} (h : Blk w T g cs) : Blk w.drew T g cs := h
end
section
open Go.RowKit
mutual
def a0k : CT → Nat
 | .mk _ _ _ _ _ args => 1 + b0i args
def b0i : List CT → Nat
 | [] => 0
 | t :: ts => a0k t + b0i ts
end
theorem j0t : ∀ (a b : List CT), b0i (a ++ b) = b0i a + b0i b
 | [], b => by simp [b0i]
 | t :: a, b => by simp only [List.cons_append, b0i, j0t a b]; omega
theorem p0s (l : List CT) (j : Nat) (hj : j < l.length) : b0i (l.take (j + 1)) = b0i (l.take j) + a0k l[j] ∧ b0i (l.take j) + a0k l[j] ≤ b0i l := by
 have e : b0i (l.take (j + 1)) = b0i (l.take j) + a0k l[j] := by
  rw [List.take_succ_eq_append_getElem hj, j0t]; simp [b0i]
 refine ⟨e, ?_⟩
 have h := j0t (l.take (j + 1)) (l.drop (j + 1))
 rw [List.take_append_drop] at h
 omega
def hexL (v : Nat) : List UInt8 := [48, 120] ++ txt 16 v
def c0f : CT → Nat
 | .mk k _ _ _ _ _ => if k = 5 then 1 else if k = 4 then 2 else 3
def e0o (least : Nat) (x : Nat × List UInt8) : List UInt8 := if x.1 < least then [40] ++ x.2 ++ [41] else x.2
def q0g (k : Int) : List (Nat × List UInt8) → List UInt8
 | [x] => if k = 6 then [126] ++ e0o 3 x else []
 | [x, y] => if k = 4 then e0o 2 x ++ [32, 47, 92, 32] ++ e0o 3 y else if k = 5 then e0o 1 x ++ [32, 92, 47, 32] ++ e0o 2 y else []
 | _ => []
def n0r (k : Int) (x1 x2 x3 x4 : List UInt8) (ps : List (Nat × List UInt8)) : List UInt8 :=
 if k = 1 then x1 ++ [58] ++ x2 ++ [61] ++ x4
 else if k = 2 then [91] ++ x3 ++ [93, 61] ++ x4
 else if k = 3 then [102, 97, 117, 108, 116, 115, 32] ++ x1 ++ [61] ++ x4
 else if k = 7 then [116, 114, 117, 101]
 else q0g k ps
def v0v (k c r : Int) (a v : Nat) (ps : List (Nat × List UInt8)) : List UInt8 := n0r k (intL c) (regL r) (hexL a) (hexL v) ps
mutual
def a0m : CT → List UInt8
 | .mk k c r a v args => v0v k c r a v (f0g args)
def f0g : List CT → List (Nat × List UInt8)
 | [] => []
 | t :: ts => (c0f t, a0m t) :: f0g ts
end
theorem o0d (v : Nat) (hv : v < 18446744073709551616) : (hexL v).length ≤ 66 := by
 have := i0r 16 v (by decide) hv
 unfold hexL
 simp; omega
theorem c0g (n : Nat) (x : Nat × List UInt8) : (e0o n x).length ≤ x.2.length + 2 := by
 unfold e0o
 split
 ·simp
 ·omega
inductive CT.Fits : CT → Prop
 | mk {k c r : Int} {a v : Nat} {args : List CT} (h : a < 18446744073709551616 ∧ v < 18446744073709551616 ∧ I64 k ∧ I64 c ∧ I64 r) (ha : ∀ u ∈ args, CT.Fits u) : CT.Fits (.mk k c r a v args)
theorem CT.At.fits {w : World} {S : Nat → Prop} : ∀ (t : CT) (cs : List Value), CT.At w S t cs → t.Fits := by
 intro t
 refine CT.ind (P := fun t => ∀ cs : List Value, CT.At w S t cs → t.Fits) ?_ t
 intro k c r a v args IH cs h
 obtain ⟨p, cap, rfl, h1, h2, h3, h4, h5⟩ := h.own
 refine .mk ⟨h3, h4⟩ (fun u hu => ?_)
 obtain ⟨j, hj, rfl⟩ := List.getElem_of_mem hu
 obtain ⟨g, off, es, _, _, _, _, h6⟩ := h5.at_ hj
 exact IH _ hu _ h6
theorem h0q : ∀ (t : CT), t.Fits → (a0m t).length ≤ 300 * a0k t := by
 intro t
 refine CT.ind (P := fun t => t.Fits → (a0m t).length ≤ 300 * a0k t) ?_ t
 intro k c r a v args IH h
 cases h with
 | mk h ha =>
  obtain ⟨h1, h2, h3, h4, h5⟩ := h
  have b1 := d0m c h4
  have b2 := l0t r h5
  have b3 := o0d a h1
  have b4 := o0d v h2
  rw [a0m, a0k]
  unfold v0v n0r
  split
  ·simp; omega
  ·split
   ·simp; omega
   ·split
    ·simp; omega
    ·split
     ·simp; omega
     ·match args, IH, ha with
      | [], _, _ => simp [f0g, q0g]
      | [x], IH, ha =>
       have hx := IH x (by simp) (ha x (by simp))
       have hi := c0g 3 (c0f x, a0m x)
       simp only [f0g, b0i, q0g]
       split
       ·simp at hi ⊢; omega
       ·simp
      | [x, y], IH, ha =>
       have hx := IH x (by simp) (ha x (by simp))
       have hy := IH y (by simp) (ha y (by simp))
       have hi := c0g 2 (c0f x, a0m x)
       have hi1 := c0g 1 (c0f x, a0m x)
       have hj := c0g 3 (c0f y, a0m y)
       have hj2 := c0g 2 (c0f y, a0m y)
       simp only [f0g, b0i, q0g]
       split
       ·simp at hi hj ⊢; omega
       ·split
        ·simp at hi1 hj2 ⊢; omega
        ·simp
      | x :: y :: z :: l, _, _ => simp [f0g, q0g]
def n1r (k c r : Int) (a v l : Nat) (k' c' r' : Int) (a' v' l' : Nat) : Bool := decide (k = k' ∧ c = c' ∧ r = r' ∧ a = a' ∧ v = v' ∧ l = l')
mutual
def v0j : CT → CT → Bool
 | .mk k c r a v l, .mk k' c' r' a' v' bs => n1r k c r a v l.length k' c' r' a' v' bs.length && z0d l bs
def z0d : List CT → List CT → Bool
 | x :: l, y :: bs => v0j x y && z0d l bs
 | _, _ => true
end
theorem t0b : ∀ (l bs : List CT), (∀ (j : Nat) (h : j < l.length) (h' : j < bs.length), v0j l[j] bs[j] = true) → z0d l bs = true
 | [], bs, _ => by rw [z0d]; intro x l y bs h; cases h
 | x :: l, [], _ => by rw [z0d]; intro x l y bs _ h; cases h
 | x :: l, y :: bs, h => by
  rw [z0d, show v0j x y = true from h 0 (by simp) (by simp), t0b l bs (fun j h1 h2 => h (j + 1) (by simpa using h1) (by simpa using h2))]
  rfl
def zeroT (k c r : Int) (a v : Nat) (args : List CT) : CT := if k = 1 then .mk 1 c r 0 v args else if k = 2 then .mk 2 0 0 a v args else if k = 3 then .mk 3 c 0 0 v args else .mk k 0 0 0 0 args
mutual
def u0l : CT → Bool
 | .mk k c r a v args => v0j (zeroT k c r a v args) (.mk k c r a v args) && u0m args
def u0m : List CT → Bool
 | [] => true
 | t :: ts => u0l t && u0m ts
end
theorem r0e : ∀ (l : List CT), (∀ (j : Nat) (h : j < l.length), u0l l[j] = true) → u0m l = true
 | [], _ => by rw [u0m]
 | x :: l, h => by
  rw [u0m, show u0l x = true from h 0 (by simp), r0e l (fun j h1 => h (j + 1) (by simpa using h1))]
  rfl
def c0w (k : Int) : Int := if k = 4 ∨ k = 5 then 2 else if k = 6 then 1 else 0
def c0i (k c r cores : Int) (len : Nat) : Int :=
 if k < 1 ∨ 7 < k ∨ ¬ (len : Int) = c0w k ∨ (k = 1 ∧ (r < 0 ∨ 31 ≤ r)) then 1 else if (k = 1 ∨ k = 3) ∧ (c < 0 ∨ cores ≤ c) then 131 else 0
mutual
def a0w (cores : Int) : CT → Int
 | .mk k c r _ _ args => if c0i k c r cores args.length = 0 then b0p cores args else c0i k c r cores args.length
def b0p (cores : Int) : List CT → Int
 | [] => 0
 | t :: ts => if a0w cores t = 0 then b0p cores ts else a0w cores t
end
theorem j0k (cores : Int) : ∀ (a b : List CT), b0p cores (a ++ b) = if b0p cores a = 0 then b0p cores b else b0p cores a
 | [], b => by simp [b0p]
 | t :: a, b => by
  simp only [List.cons_append, b0p, j0k cores a b]
  by_cases h : a0w cores t = 0
  ·simp [h]
  ·simp [h]
theorem g0c (cores : Int) (l : List CT) (j : Nat) (hj : j < l.length) (h0 : b0p cores (l.take j) = 0) :
  b0p cores (l.take (j + 1)) = a0w cores l[j] ∧ (¬ a0w cores l[j] = 0 → b0p cores l = a0w cores l[j]) := by
 have e : b0p cores (l.take (j + 1)) = a0w cores l[j] := by
  rw [List.take_succ_eq_append_getElem hj, j0k, if_pos h0]
  simp only [b0p]
  split
  ·rename_i h; exact h.symm
  ·rfl
 refine ⟨e, fun h => ?_⟩
 have h2 := j0k cores (l.take (j + 1)) (l.drop (j + 1))
 rw [List.take_append_drop, e, if_neg h] at h2
 exact h2
def g0w (cores : Int) (t : CT) : Int := if 64 < a0k t then 120 else a0w cores t
theorem head0 {k c r cores : Int} {len : Nat} (h : c0i k c r cores len = 0) : (1 ≤ k ∧ k ≤ 7) ∧ (len : Int) = c0w k ∧ (k = 1 → 0 ≤ r ∧ r < 31) ∧ (k = 1 ∨ k = 3 → 0 ≤ c ∧ c < cores) := by
 unfold c0i at h
 split at h
 ·cases h
 ·split at h
  ·cases h
  ·rename_i h1 h2
   refine ⟨by omega, by omega, fun e => by omega, fun e => by omega⟩
theorem l1m {k c r cores : Int} {a v : Nat} {args : List CT} (h : a0w cores (.mk k c r a v args) = 0) : c0i k c r cores args.length = 0 ∧ ∀ t ∈ args, a0w cores t = 0 := by
 rw [a0w] at h
 split at h
 ·rename_i h0
  refine ⟨h0, ?_⟩
  clear h0
  induction args with
  | nil => intro t ht; cases ht
  | cons x l ih =>
   rw [b0p] at h
   split at h
   ·rename_i hx
    intro t ht
    rcases List.mem_cons.1 ht with rfl | h1
    ·exact hx
    ·exact ih h t h1
   ·rename_i hx; exact absurd h hx
 ·rename_i h0; exact absurd h h0
theorem z0c : ∀ t : CT, v0j t t = true := by
 intro t
 refine CT.ind (P := fun t => v0j t t = true) ?_ t
 intro k c r a v args ih
 rw [v0j, show n1r k c r a v args.length k c r a v args.length = true by unfold n1r; simp, Bool.true_and]
 exact t0b args args (fun j h _ => ih _ (List.getElem_mem h))
end
section
open Go.RowKit
structure GCore where
 regs : List Nat
 space : Int
 table : Nat
 code : List Ins
 hand : List Ins
structure GSrc where
 name : ByteArray
 cells : List (Nat × Nat)
 cores : List GCore
 fa : Bool
 cond : CT
 tables : List Nat
 pT : List Int
 pC : List Int
 pCo : List Int
 pI : List (List Int)
 pCond : Int
def l0d (c : CoreA) : GCore := ⟨c.regs, (c.space : Nat), c.table, c.code, c.hand⟩
def gsrc (x : SrcA) : GSrc := ⟨x.name, x.cells, x.cores.map l0d, x.fa, x.cond, x.tables, x.pT, x.pC, x.pCo, x.pI, x.pCond⟩
def a0i (l : List Int) (i : Nat) : Int := l.getD i 0
def n0t (t : Nat) : Bool := decide (t % 4096 = 0) && decide (t < 4294967296)
def b0g (p : List Int) : List Nat → List Nat → Int × Int
 | _, [] => (0, 0)
 | pre, t :: l => if n0t t = false then (133, a0i p pre.length) else if t ∈ pre then (132, a0i p pre.length) else b0g p (pre ++ [t]) l
def f0e (a : Nat) : Int := if ¬ a % 8 = 0 then 60 else if 4294967296 ≤ a then 1 else 0
def cellsE (p : List Int) : List Nat → List Nat → Int × Int
 | _, [] => (0, 0)
 | pre, a :: l => if ¬ f0e a = 0 then (f0e a, a0i p pre.length) else if a ∈ pre then (130, a0i p pre.length) else cellsE p (pre ++ [a]) l
def brB (op : Int) : Bool := op == 15 || op == 16 || op == 17
def insE (x : Ins) (left : Nat) (h : Bool) : Int :=
 if ¬ b0e x.op x.d x.n x.m x.imm x.kind then 30
 else if x.op = 22 ∧ h = false then 30
 else if x.op = 14 ∨ brB x.op = true then (if x.imm < 1 then 134 else if (left : Int) < x.imm then 1 else 0)
 else 0
def c0s (h : Bool) : Nat → List Ins → Nat × Int
 | _, [] => (0, 0)
 | i, x :: l => if insE x (l.length + 1) h = 0 then c0s h (i + 1) l else (i, insE x (l.length + 1) h)
def d0p (tables : List Nat) (c : GCore) (at_ : Int) (places : List Int) : Int × Int :=
 if ¬ c.table % 4096 = 0 then (133, at_)
 else if ¬ c.table ∈ tables then (131, at_)
 else if c.space < 0 ∨ 65536 ≤ c.space then (1, at_)
 else if 16 < c.code.length then (136, a0i places 16)
 else if 16 < c.hand.length then (136, a0i places (c.code.length + 16))
 else if ¬ (c0s false 0 c.code).2 = 0 then ((c0s false 0 c.code).2, a0i places (c0s false 0 c.code).1)
 else if ¬ (c0s true 0 c.hand).2 = 0 then ((c0s true 0 c.hand).2, a0i places (c.code.length + (c0s true 0 c.hand).1))
 else (0, 0)
def e0q (x : GSrc) : Nat → List GCore → Int × Int
 | _, [] => (0, 0)
 | i, c :: l =>
  let a := d0p x.tables c (a0i x.pCo i) (x.pI.getD i [])
  if a.1 = 0 then e0q x (i + 1) l else a
def accB (op : Int) : Bool := (op == 2 || op == 4) || (op == 3 || op == 5)
def b0x (cores : Nat) : List Ins → Nat × Nat
 | [] => (0, 0)
 | x :: l =>
  let r := b0x cores l
  if accB x.op = true then (r.1 + 3, r.2 + 1)
  else if x.op = 21 ∧ x.kind < 4 then (r.1 + (1 + cores), r.2)
  else if x.op = 21 then (r.1 + 2, r.2)
  else r
def b0m (cores : Nat) : List GCore → Nat
 | [] => 0
 | c :: l => (b0x cores c.code).1 + (b0x cores c.code).2 * (b0x cores c.hand).1 + b0m cores l
def b0y (x : GSrc) : Int × Int :=
 let a := b0g x.pT [] x.tables
 if ¬ a.1 = 0 then a
 else if 192 < x.cells.length then (2, a0i x.pC 192)
 else
  let b := cellsE x.pC [] (x.cells.map Prod.fst)
  if ¬ b.1 = 0 then b
  else if x.cores.length = 0 ∨ 4 < x.cores.length then (135, a0i x.pCo 4)
  else
   let c := e0q x 0 x.cores
   if ¬ c.1 = 0 then c
   else if 64 < b0m x.cores.length x.cores then (137, a0i x.pCo 0)
   else if ¬ g0w (x.cores.length : Nat) x.cond = 0 then (g0w (x.cores.length : Nat) x.cond, x.pCond)
   else (0, 0)
def f0c (s : ByteArray) : SrcA × Int × Int :=
 if ¬ (litA s).2.1 = 0 then (src0, (litA s).2)
 else if ¬ (b0y (gsrc (litA s).1)).1 = 0 then (src0, b0y (gsrc (litA s).1))
 else ((litA s).1, 0, 0)
end
section
open Go.RowKit
theorem c0c {P : Program} {fn : Func} {p u : Tmp} {ty : TypeId} (h : fn.results = #[.cell p ty, .tmp u]) (tmps : Array Value) (w : World) (g : Nat) (t : TypeId) (cs : Array Value) (fr : Nat × Nat) (d : TypeDesc)
  (hp : tmps.getD p undef = .pointer (some ⟨g, 0, none⟩)) (hg : w.heap[g]? = some (.cells cs t fr))
  (hu : P.underlying ty = some d) (hd : (match d with | .struct _ | .array _ _ => true | _ => false) = true) (hi : (P.info? ty).map (·.size) = some cs.size) :
  (results fn tmps).run P w = .ok (.tuple #[.agg cs, tmps.getD u undef]) w := by
 have hp' : tmps[p]?.getD undef = .pointer (some ⟨g, 0, none⟩) := by simpa using hp
 simp [results, h, hp', asAddr, run_loadVar_row w g t ty cs fr d hg hu hd hi]
theorem j1o (n : Int) (w : World) :
  Calls Tryz.prog 141 #[.int .i64 n] w fun e w' => e = .returned (.bool (inB n 0 31)) ∧ w = w' := by
 have H : Hid (inB n 0 31 = decide (0 ≤ n ∧ n ≤ 31)) := rfl
 by_cases h1 : 0 ≤ n <;> by_cases h2 : n ≤ 31 <;> (
  go_enter Tryz.func141, Tryz.ntmps141
  go_wp2
  go_ret
  refine ⟨a0l ?_, rfl⟩
  rw [H.out]
  simp [h1, h2])
theorem low_15 (n : Int) (w : World) :
  Calls Tryz.prog 153 #[.int .i64 n, .int .i64 15] w fun e w' => e = .returned (.bool (inB n 0 32767)) ∧ w = w' := by
 have H : Hid (inB n 0 32767 = decide (0 ≤ n ∧ n ≤ 32767)) := rfl
 by_cases h1 : 0 ≤ n <;> by_cases h2 : n < 32768 <;> (
  go_enter Tryz.func153, Tryz.ntmps153
  go_wp2
  go_ret
  refine ⟨a0l ?_, rfl⟩
  rw [H.out]
  simp [h1]
  try omega)
theorem low_12 (n : Int) (w : World) :
  Calls Tryz.prog 153 #[.int .i64 n, .int .i64 12] w fun e w' => e = .returned (.bool (inB n 0 4095)) ∧ w = w' := by
 have H : Hid (inB n 0 4095 = decide (0 ≤ n ∧ n ≤ 4095)) := rfl
 by_cases h1 : 0 ≤ n <;> by_cases h2 : n < 4096 <;> (
  go_enter Tryz.func153, Tryz.ntmps153
  go_wp2
  go_ret
  refine ⟨a0l ?_, rfl⟩
  rw [H.out]
  simp [h1]
  try omega)
theorem low_16 (n : Int) (w : World) :
  Calls Tryz.prog 153 #[.int .i64 n, .int .i64 16] w fun e w' => e = .returned (.bool (inB n 0 65535)) ∧ w = w' := by
 have H : Hid (inB n 0 65535 = decide (0 ≤ n ∧ n ≤ 65535)) := rfl
 by_cases h1 : 0 ≤ n <;> by_cases h2 : n < 65536 <;> (
  go_enter Tryz.func153, Tryz.ntmps153
  go_wp2
  go_ret
  refine ⟨a0l ?_, rfl⟩
  rw [H.out]
  simp [h1]
  try omega)
theorem low_2 (n : Int) (w : World) :
  Calls Tryz.prog 153 #[.int .i64 n, .int .i64 2] w fun e w' => e = .returned (.bool (inB n 0 3)) ∧ w = w' := by
 have H : Hid (inB n 0 3 = decide (0 ≤ n ∧ n ≤ 3)) := rfl
 by_cases h1 : 0 ≤ n <;> by_cases h2 : n < 4 <;> (
  go_enter Tryz.func153, Tryz.ntmps153
  go_wp2
  go_ret
  refine ⟨a0l ?_, rfl⟩
  rw [H.out]
  simp [h1]
  try omega)
theorem low_1 (n : Int) (w : World) :
  Calls Tryz.prog 153 #[.int .i64 n, .int .i64 1] w fun e w' => e = .returned (.bool (inB n 0 1)) ∧ w = w' := by
 have H : Hid (inB n 0 1 = decide (0 ≤ n ∧ n ≤ 1)) := rfl
 by_cases h1 : 0 ≤ n <;> by_cases h2 : n < 2 <;> (
  go_enter Tryz.func153, Tryz.ntmps153
  go_wp2
  go_ret
  refine ⟨a0l ?_, rfl⟩
  rw [H.out]
  simp [h1]
  try omega)
theorem low_3 (n : Int) (w : World) :
  Calls Tryz.prog 153 #[.int .i64 n, .int .i64 3] w fun e w' => e = .returned (.bool (inB n 0 7)) ∧ w = w' := by
 have H : Hid (inB n 0 7 = decide (0 ≤ n ∧ n ≤ 7)) := rfl
 by_cases h1 : 0 ≤ n <;> by_cases h2 : n < 8 <;> (
  go_enter Tryz.func153, Tryz.ntmps153
  go_wp2
  go_ret
  refine ⟨a0l ?_, rfl⟩
  rw [H.out]
  simp [h1]
  try omega)
theorem n1u (n : Int) (w : World) :
  Calls Tryz.prog 154 #[.int .i64 n, .int .i64 26] w fun e w' => e = .returned (.bool (inB n (-33554432) 33554431)) ∧ w = w' := by
 have H : Hid (inB n (-33554432) 33554431 = decide (-33554432 ≤ n ∧ n ≤ 33554431)) := rfl
 by_cases h1 : -33554432 ≤ n <;> by_cases h2 : n < 33554432 <;> (
  go_enter Tryz.func154, Tryz.ntmps154
  go_wp2
  go_ret
  refine ⟨a0l ?_, rfl⟩
  rw [H.out]
  simp [h1]
  try omega)
theorem n1v (n : Int) (w : World) :
  Calls Tryz.prog 154 #[.int .i64 n, .int .i64 19] w fun e w' => e = .returned (.bool (inB n (-262144) 262143)) ∧ w = w' := by
 have H : Hid (inB n (-262144) 262143 = decide (-262144 ≤ n ∧ n ≤ 262143)) := rfl
 by_cases h1 : -262144 ≤ n <;> by_cases h2 : n < 262144 <;> (
  go_enter Tryz.func154, Tryz.ntmps154
  go_wp2
  go_ret
  refine ⟨a0l ?_, rfl⟩
  rw [H.out]
  simp [h1]
  try omega)
def lowT (b : Int) : Int := if b = 1 then 1 else if b = 2 then 3 else if b = 3 then 7 else if b = 12 then 4095 else if b = 15 then 32767 else 65535
theorem n1g (n b : Int) (w : World) (hb : b = 1 ∨ b = 2 ∨ b = 3 ∨ b = 12 ∨ b = 15 ∨ b = 16) :
  Calls Tryz.prog 153 #[.int .i64 n, .int .i64 b] w fun e w' => e = .returned (.bool (inB n 0 (lowT b))) ∧ w = w' := by
 rcases hb with rfl | rfl | rfl | rfl | rfl | rfl
 ·exact low_1 n w
 ·exact low_2 n w
 ·exact low_3 n w
 ·exact low_12 n w
 ·exact low_15 n w
 ·exact low_16 n w
def fitsL (b : Int) : Int := if b = 26 then -33554432 else -262144
def fitsH (b : Int) : Int := if b = 26 then 33554431 else 262143
theorem j1y (n b : Int) (w : World) (hb : b = 26 ∨ b = 19) :
  Calls Tryz.prog 154 #[.int .i64 n, .int .i64 b] w fun e w' => e = .returned (.bool (inB n (fitsL b) (fitsH b))) ∧ w = w' := by
 rcases hb with rfl | rfl
 ·exact n1u n w
 ·exact n1v n w
def barB (k : Int) : Bool := decide ((9 ≤ k ∧ k ≤ 11) ∨ (13 ≤ k ∧ k ≤ 15))
theorem j1t (n : Int) (w : World) :
  Calls Tryz.prog 155 #[.int .i64 n] w fun e w' => e = .returned (.bool (barB n)) ∧ w = w' := by
 by_cases h9 : n = 9
 ·subst h9; go_enter Tryz.func155, Tryz.ntmps155; go_wp2; go_ret; exact ⟨rfl, rfl⟩
 by_cases h10 : n = 10
 ·subst h10; go_enter Tryz.func155, Tryz.ntmps155; go_wp2; go_ret; exact ⟨rfl, rfl⟩
 by_cases h11 : n = 11
 ·subst h11; go_enter Tryz.func155, Tryz.ntmps155; go_wp2; go_ret; exact ⟨rfl, rfl⟩
 by_cases h13 : n = 13
 ·subst h13; go_enter Tryz.func155, Tryz.ntmps155; go_wp2; go_ret; exact ⟨rfl, rfl⟩
 by_cases h14 : n = 14
 ·subst h14; go_enter Tryz.func155, Tryz.ntmps155; go_wp2; go_ret; exact ⟨rfl, rfl⟩
 by_cases h15 : n = 15
 ·subst h15; go_enter Tryz.func155, Tryz.ntmps155; go_wp2; go_ret; exact ⟨rfl, rfl⟩
 have e9 : (n == 9) = false := beq_eq_false_iff_ne.2 h9
 have e10 : (n == 10) = false := beq_eq_false_iff_ne.2 h10
 have e11 : (n == 11) = false := beq_eq_false_iff_ne.2 h11
 have e13 : (n == 13) = false := beq_eq_false_iff_ne.2 h13
 have e14 : (n == 14) = false := beq_eq_false_iff_ne.2 h14
 have e15 : (n == 15) = false := beq_eq_false_iff_ne.2 h15
 have HX := h_ (show barB n = false from decide_eq_false (by omega))
 go_enter Tryz.func155, Tryz.ntmps155
 go_wp2
 go_ret
 exact ⟨by rw [HX.out]; rfl, rfl⟩
def shp (op : Int) : Bool × Bool × Bool × Bool × Bool := (decide (op = 2 ∨ op = 3 ∨ op = 4 ∨ op = 5 ∨ op = 6 ∨ op = 7 ∨ op = 8 ∨ op = 9 ∨ op = 10 ∨ op = 11 ∨ op = 12 ∨ op = 13 ∨ op = 15 ∨ op = 16 ∨ op = 21 ∨ op = 23), decide (op = 2 ∨ op = 3 ∨ op = 4 ∨ op = 5 ∨ op = 7 ∨ op = 8 ∨ op = 9 ∨ op = 10 ∨ op = 11 ∨ op = 12 ∨ op = 13), decide (op = 8 ∨ op = 9 ∨ op = 10 ∨ op = 11 ∨ op = 12 ∨ op = 13), decide (op = 2 ∨ op = 3 ∨ op = 6 ∨ op = 7 ∨ op = 14 ∨ op = 15 ∨ op = 16 ∨ op = 17), decide (op = 6 ∨ op = 17 ∨ op = 18 ∨ op = 19 ∨ op = 21 ∨ op = 23))
theorem a1j (op : Int) (w : World) (h : opB op = true) (a b c d e : Bool) (hs : shp op = (a, b, c, d, e)) : Calls Tryz.prog 140 #[.int .i64 op] w fun r w' => r = .returned (.tuple #[.agg #[.bool a, .bool b, .bool c, .bool d, .bool e], .bool true]) ∧ Below w.heap.size w w' := by
 have HB := h_ (bl_ (Below.refl w.heap.size w) (.cells #[.bool a, .bool b, .bool c, .bool d, .bool e] 185))
 have HN := h_ (Blk.new w 185 [.bool a, .bool b, .bool c, .bool d, .bool e])
 rcases k0l h with rfl | rfl | rfl | rfl | rfl | rfl | rfl | rfl | rfl | rfl | rfl | rfl | rfl | rfl | rfl | rfl | rfl | rfl | rfl | rfl | rfl | rfl | rfl
 all_goals (
  simp [shp] at hs
  obtain ⟨rfl, rfl, rfl, rfl, rfl⟩ := hs
  clear h
  go_enter Tryz.func140, Tryz.ntmps140
  go_wp2
  exact bodyPost_ret (c0c rfl _ _ w.heap.size 185 #[.bool _, .bool _, .bool _, .bool _, .bool _] (0, 0) _ rfl HN.out Tryz.underlying185 rfl (by kernel_rfl)) rfl ⟨rfl, HB.out⟩)
theorem f1h (op : Int) (w : World) (h : opB op = false) : Calls Tryz.prog 140 #[.int .i64 op] w fun e w' => e = .returned (.tuple #[.agg #[.bool false, .bool false, .bool false, .bool false, .bool false], .bool false]) ∧ Below w.heap.size w w' := by
 have h' : ¬ (1 ≤ op ∧ op ≤ 23) := of_decide_eq_false h
 have HB := h_ (bl_ (Below.refl w.heap.size w) (.cells #[.bool false, .bool false, .bool false, .bool false, .bool false] 185))
 have HN := h_ (Blk.new w 185 [.bool false, .bool false, .bool false, .bool false, .bool false])
 have e1 : (op == 1) = false := beq_eq_false_iff_ne.2 (by omega)
 have e2 : (op == 2) = false := beq_eq_false_iff_ne.2 (by omega)
 have e3 : (op == 3) = false := beq_eq_false_iff_ne.2 (by omega)
 have e4 : (op == 4) = false := beq_eq_false_iff_ne.2 (by omega)
 have e5 : (op == 5) = false := beq_eq_false_iff_ne.2 (by omega)
 have e6 : (op == 6) = false := beq_eq_false_iff_ne.2 (by omega)
 have e7 : (op == 7) = false := beq_eq_false_iff_ne.2 (by omega)
 have e8 : (op == 8) = false := beq_eq_false_iff_ne.2 (by omega)
 have e9 : (op == 9) = false := beq_eq_false_iff_ne.2 (by omega)
 have e10 : (op == 10) = false := beq_eq_false_iff_ne.2 (by omega)
 have e11 : (op == 11) = false := beq_eq_false_iff_ne.2 (by omega)
 have e12 : (op == 12) = false := beq_eq_false_iff_ne.2 (by omega)
 have e13 : (op == 13) = false := beq_eq_false_iff_ne.2 (by omega)
 have e14 : (op == 14) = false := beq_eq_false_iff_ne.2 (by omega)
 have e15 : (op == 15) = false := beq_eq_false_iff_ne.2 (by omega)
 have e16 : (op == 16) = false := beq_eq_false_iff_ne.2 (by omega)
 have e17 : (op == 17) = false := beq_eq_false_iff_ne.2 (by omega)
 have e18 : (op == 18) = false := beq_eq_false_iff_ne.2 (by omega)
 have e19 : (op == 19) = false := beq_eq_false_iff_ne.2 (by omega)
 have e20 : (op == 20) = false := beq_eq_false_iff_ne.2 (by omega)
 have e21 : (op == 21) = false := beq_eq_false_iff_ne.2 (by omega)
 have e22 : (op == 22) = false := beq_eq_false_iff_ne.2 (by omega)
 have e23 : (op == 23) = false := beq_eq_false_iff_ne.2 (by omega)
 clear h h'
 go_enter Tryz.func140, Tryz.ntmps140
 go_wp2
 exact bodyPost_ret (c0c rfl _ _ w.heap.size 185 #[.bool false, .bool false, .bool false, .bool false, .bool false] (0, 0) _ rfl HN.out Tryz.underlying185 rfl (by kernel_rfl)) rfl ⟨rfl, HB.out⟩
def numI (op d imm kind : Int) : Bool := decide (c0m op imm kind ∧ c0l op d kind)
theorem n1e {op d imm kind : Int} {b : Bool} (h : b = true ↔ c0m op imm kind ∧ c0l op d kind) : b = numI op d imm kind := by
 unfold numI
 cases b with
 | true => exact (decide_eq_true (h.1 rfl)).symm
 | false => exact (decide_eq_false (fun hp => by cases h.2 hp)).symm
theorem j1q (op d n m imm kind : Int) (w : World) (h : opB op = true) :
  Calls Tryz.prog 142 #[b0o op d n m imm kind] w fun e w' => e = .returned (.bool (numI op d imm kind)) ∧ Below w.heap.size w w' := by
 have T8 := h_ (a0j imm 8)
 have T4 := h_ (a0j kind 4)
 rcases k0l h with rfl | rfl | rfl | rfl | rfl | rfl | rfl | rfl | rfl | rfl | rfl | rfl | rfl | rfl | rfl | rfl | rfl | rfl | rfl | rfl | rfl | rfl | rfl
 all_goals (
  clear h
  go_enter Tryz.func142, Tryz.ntmps142
  go_wp2_with (first | (go_at_call 153; refine (n1g _ _ _ (by decide)).mono ?_; rintro e w' ⟨rfl, rfl⟩) | (go_at_call 154; refine (j1y _ _ _ (by decide)).mono ?_; rintro e w' ⟨rfl, rfl⟩) | (go_at_call 155; refine (j1t _ _).mono ?_; rintro e w' ⟨rfl, rfl⟩))
  all_goals go_ret
  all_goals (
   refine ⟨a0l (n1e ?_), bl_ (Below.refl _ _) _⟩
   simp [inB, barB, lowT, fitsL, fitsH, c0m, c0l] at *
   all_goals (
    have t8 := T8.out
    have t4 := T4.out
    try omega)))
end
section
open Go.RowKit
def g0s (op d n m imm kind : Int) : Int := if b0e op d n m imm kind then 0 else 30
abbrev b0r (op d n m imm kind : Int) : List Value := [.int .i64 op, .int .i64 d, .int .i64 n, .int .i64 m, .int .i64 imm, .int .i64 kind]
theorem a0u (w : World) (op d n m imm kind : Int) : Blk (w.alloc (.cells #[.int .i64 op, .int .i64 d, .int .i64 n, .int .i64 m, .int .i64 imm, .int .i64 kind] 91)) 91 w.heap.size (b0r op d n m imm kind) := Blk.new w _ (b0r op d n m imm kind)
theorem a0h {w : World} {g : Nat} {op d n m imm kind : Int} (h : Blk w 91 g (b0r op d n m imm kind)) : w.cell? ⟨g, 0, none⟩ = some (.int .i64 op) ∧ w.cell? ⟨g, 1, none⟩ = some (.int .i64 d) ∧ w.cell? ⟨g, 2, none⟩ = some (.int .i64 n) ∧ w.cell? ⟨g, 3, none⟩ = some (.int .i64 m) ∧ w.cell? ⟨g, 4, none⟩ = some (.int .i64 imm) ∧ w.cell? ⟨g, 5, none⟩ = some (.int .i64 kind) :=
 ⟨h.cell 0, h.cell 1, h.cell 2, h.cell 3, h.cell 4, h.cell 5⟩
theorem a1i (op d n m imm kind : Int) (w : World) (h : opB op = true) :
  Calls Tryz.prog 104 #[b0o op d n m imm kind] w fun e w' => e = .returned (.int .i64 (g0s op d n m imm kind)) ∧ Below w.heap.size w w' := by
 obtain ⟨a, b, c, d', e', hs⟩ : ∃ a b c d' e', shp op = (a, b, c, d', e') := ⟨_, _, _, _, _, rfl⟩
 have H30 := h_ (fun (h : ¬ b0e op d n m imm kind) => show g0s op d n m imm kind = 30 from if_neg h)
 have H0 := h_ (fun (h : b0e op d n m imm kind) => show g0s op d n m imm kind = 0 from if_pos h)
 generalize g0s op d n m imm kind = R at *
 have HB := h_ (bl_ (Below.refl w.heap.size w) (.cells #[.int .i64 op, .int .i64 d, .int .i64 n, .int .i64 m, .int .i64 imm, .int .i64 kind] 91))
 have HN := h_ (a0u w op d n m imm kind)
 go_enter Tryz.func104, Tryz.ntmps104
 go_wp2_with fail
 refine (a1j op _ h a b c d' e' hs).mono ?_
 rintro e w2 ⟨rfl, hb⟩
 have HB2 := h_ (bt_ HB.out hb)
 have hlt := (HN.out.below hb).lt
 obtain ⟨n0, n1, n2, n3, n4, n5⟩ := a0h (HN.out.below hb)
 clear hb HN HB
 rcases k0l h with rfl | rfl | rfl | rfl | rfl | rfl | rfl | rfl | rfl | rfl | rfl | rfl | rfl | rfl | rfl | rfl | rfl | rfl | rfl | rfl | rfl | rfl | rfl
 all_goals (
  clear h
  simp [shp] at hs
  obtain ⟨rfl, rfl, rfl, rfl, rfl⟩ := hs
  go_wp2_with (first | (go_at_call 141; refine (j1o _ _).mono ?_; rintro e w' ⟨rfl, rfl⟩) | (go_at_call 142; refine (j1q _ _ _ _ _ _ _ (by decide)).mono ?_; rintro e w3 ⟨rfl, hb3⟩))
  all_goals go_ret
  all_goals clear n0 n1 n2 n3 n4 n5 hlt
  all_goals first
   | (refine ⟨Eq.trans (b := .returned (.int .i64 30)) rfl ?_, by first | exact bl_ HB2.out _ | exact bt_ (bl_ HB2.out _) (by assumption)⟩
      rw [H30.out ?_]
      clear H30 H0 HB2
      simp [inB, numI, b0e, d0i, d0h, c0m, c0l] at *
      try omega)
   | (refine ⟨Eq.trans (b := .returned (.int .i64 0)) rfl ?_, by first | exact bl_ HB2.out _ | exact bt_ (bl_ HB2.out _) (by assumption)⟩
      rw [H0.out ?_]
      clear H30 H0 HB2
      simp [inB, numI, b0e, d0i, d0h, c0m, c0l] at *
      try omega))
theorem f1g (op d n m imm kind : Int) (w : World) (h : opB op = false) :
  Calls Tryz.prog 104 #[b0o op d n m imm kind] w fun e w' => e = .returned (.int .i64 (g0s op d n m imm kind)) ∧ Below w.heap.size w w' := by
 have H30 := h_ (fun (h : ¬ b0e op d n m imm kind) => show g0s op d n m imm kind = 30 from if_neg h)
 have H0 := h_ (fun (h : b0e op d n m imm kind) => show g0s op d n m imm kind = 0 from if_pos h)
 generalize g0s op d n m imm kind = R at *
 have HB := h_ (bl_ (Below.refl w.heap.size w) (.cells #[.int .i64 op, .int .i64 d, .int .i64 n, .int .i64 m, .int .i64 imm, .int .i64 kind] 91))
 have HN := h_ (a0u w op d n m imm kind)
 go_enter Tryz.func104, Tryz.ntmps104
 go_wp2_with fail
 refine (f1h _ _ h).mono ?_
 rintro e w2 ⟨rfl, hb⟩
 have HB2 := h_ (bt_ HB.out hb)
 have hlt := (HN.out.below hb).lt
 obtain ⟨n0, n1, n2, n3, n4, n5⟩ := a0h (HN.out.below hb)
 clear hb HN HB
 have HF := h_ (H30.out (fun hp => (of_decide_eq_false h) hp.1.1))
 go_wp2_with fail
 go_ret
 exact ⟨by rw [HF.out]; rfl, bl_ HB2.out _⟩
theorem m0u (op d n m imm kind : Int) (w : World) :
  Calls Tryz.prog 104 #[b0o op d n m imm kind] w fun e w' => e = .returned (.int .i64 (g0s op d n m imm kind)) ∧ Below w.heap.size w w' := by
 cases h : opB op
 ·exact f1g op d n m imm kind w h
 ·exact a1i op d n m imm kind w h
end
end Go.Proofs.YtmnojnopejhebaaGreat
