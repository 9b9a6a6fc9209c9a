/- The document's text of a condition. -/
import Derived.Test.YtmnojnopejhebaaGreatMgaa
import Derived.Test.YtmnojnopejhebaaGreatMgab
import Derived.Test.YtmnojnopejhebaaGreatMgae
import Derived.Test.YtmnojnopejhebaaGreatMgai
import Derived.Test.YtmnojnopejhebaaGreatMgak
import Derived.Test.YtmnojnopejhebaaGreatMgal
import Derived.Test.YtmnojnopejhebaaGreatRows
import Derived.Deep.DeepCutAuto
import Derived.Deep.RegionHeld
namespace Go.Proofs.YtmnojnopejhebaaGreat
set_option linter.unusedVariables false
set_option linter.unusedSimpArgs false
set_option maxRecDepth 100000
set_option maxHeartbeats 25600000
section
open Go.RowKit
def s0a (b n : Nat) : Prop := n < 18446744073709551616 → ∀ w : World, Calls Tryz.prog 64 #[.int .u64 (n : Int), .int .u64 (b : Int)] w fun e w' => e = .returned (.string (ba (txt b n))) ∧ ∃ m, w' = w.drewN m
theorem b1d (b : Nat) (hb : 2 ≤ b) (hb16 : b ≤ 16) (n : Nat) (ih : ∀ k, k < n → s0a b k) : s0a b n := by
 intro hn w
 have e2 : (n : Int).tmod (b : Int) = ((n % b : Nat) : Int) := rfl
 have e4 : (n : Int) % (b : Int) = ((n % b : Nat) : Int) := rfl
 have hr : n % b < 16 := Nat.lt_of_lt_of_le (Nat.mod_lt _ (by omega)) hb16
 have hb0 : ((b : Int) == 0) = false := beq_eq_false_iff_ne.2 (by omega)
 by_cases h : n < b
 ·have H := h_ (show txt b n = [dg (n % b)] by rw [j0g b n h, Nat.mod_eq_of_lt h])
  clear ih
  generalize n % b = r at *
  have e3 : IntKind.u64.wrap ((r : Int) + 1) = (r : Int) + 1 := i0e _ (by omega)
  have hsl := l0s r hr
  go_enter Tryz.func64, Tryz.ntmps64
  go_wp2_with fail
  go_quiet (fail)
  go_wp2
  go_ret
  exact ⟨k0b (congrArg Value.string (congrArg ba H.out.symm)), _, rfl⟩
 ·have hlt : n / b < n := Nat.div_lt_self (by omega) (by omega)
  have IH := h_ (ih (n / b) hlt)
  have H := h_ (m0j b n hb (by omega))
  have e1 : IntKind.u64.wrap ((n : Int).tdiv (b : Int)) = ((n / b : Nat) : Int) := by
   have e9 : (n : Int).tdiv (b : Int) = ((n / b : Nat) : Int) := rfl
   rw [e9]; exact i0e _ ⟨Int.natCast_nonneg _, by have := Nat.div_le_self n b; generalize n / b = q at *; omega⟩
  have e5 : (n : Int) / (b : Int) = ((n / b : Nat) : Int) := rfl
  have hq : n / b < 18446744073709551616 := by omega
  clear ih hlt
  generalize n % b = r at *
  generalize n / b = q at *
  have e3 : IntKind.u64.wrap ((r : Int) + 1) = (r : Int) + 1 := i0e _ (by omega)
  have hsl := l0s r hr
  have hcat := k0z (P := Tryz.prog) (txt b q) [dg r] (by have := f0x b q hb hq; simp; omega)
  go_enter Tryz.func64, Tryz.ntmps64
  go_wp2_with fail
  go_quiet (fail)
  go_wp2_with (go_at_call 64; refine (IH.out hq _).mono ?_; rintro e w' ⟨rfl, m, rfl⟩)
  go_ret
  exact ⟨k0b (congrArg Value.string (congrArg ba H.out.symm)), _, rfl⟩
theorem w0m (b : Nat) (hb : 2 ≤ b) (hb16 : b ≤ 16) (n : Nat) : s0a b n := Nat.strongRecOn n (b1d b hb hb16)
theorem r0f (b x : Int) (w : World) (hb : b = 10 ∨ b = 16) (hx : 0 ≤ x ∧ x < 18446744073709551616) :
  Calls Tryz.prog 64 #[.int .u64 x, .int .u64 b] w fun e w' => e = .returned (.string (ba (txt b.toNat x.toNat))) ∧ ∃ m, w' = w.drewN m := by
 obtain ⟨n, rfl⟩ := Int.eq_ofNat_of_zero_le hx.1
 rcases hb with rfl | rfl
 ·exact w0m 10 (by decide) (by decide) n (by omega) w
 ·exact w0m 16 (by decide) (by decide) n (by omega) w
theorem g1z (x : Int) (w : World) (hx : 0 ≤ x ∧ x < 18446744073709551616) :
  Calls Tryz.prog 35 #[.int .u64 x] w fun e w' => e = .returned (.string (ba ([48, 120] ++ txt 16 x.toNat))) ∧ ∃ m, w' = w.drewN m := by
 have b1 := f0x 16 x.toNat (by decide) (by omega)
 have hcat' : ∀ wx : World, (Op.stringOp .add { data := #[48, 120] } (ba (txt 16 x.toNat))).run Tryz.prog wx = .ok (.string (ba ([48, 120] ++ txt 16 x.toNat))) wx := k0z (P := Tryz.prog) [48, 120] (txt 16 x.toNat) (by simp; omega)
 clear b1
 go_enter Tryz.func35, Tryz.ntmps35
 go_wp2_with (go_at_call 64; refine (r0f 16 _ _ (.inr rfl) hx).mono ?_; rintro e w' ⟨rfl, m, rfl⟩; rw [show (16 : Int).toNat = 16 from rfl])
 go_ret
 exact ⟨rfl, _, rfl⟩
theorem e1v (n : Int) (hn : -9223372036854775808 ≤ n ∧ n < 0) : IntKind.u64.wrap (bits BinOp.xor IntKind.u64 IntKind.u64.max (IntKind.u64.wrap n) + 1) = -n := by
 obtain ⟨m, hm⟩ := Int.eq_ofNat_of_zero_le (show 0 ≤ n + 18446744073709551616 by omega)
 have e0 : IntKind.u64.wrap n = (m : Int) := by rw [IntKind.wrap_u64]; omega
 have e : IntKind.u64.max = ((18446744073709551615 : Nat) : Int) := by decide
 rw [e0, e, bits_xor_u64_nat _ _ (by decide) (by omega)]
 have hx : (18446744073709551615 : Nat) ^^^ m = 18446744073709551615 - m := by
  have := BitVec.toNat_not (x := BitVec.ofNat 64 m)
  rw [BitVec.not_def, BitVec.toNat_xor, BitVec.toNat_ofNat] at this
  simpa [Nat.mod_eq_of_lt (show m < 2 ^ 64 by omega)] using this
 rw [hx, IntKind.wrap_u64]
 omega
theorem l0f (n : Int) (w : World) (hn : -9223372036854775808 ≤ n ∧ n ≤ 9223372036854775807) :
  Calls Tryz.prog 36 #[.int .i64 n] w fun e w' => e = .returned (.string (ba (intL n))) ∧ ∃ m, w' = w.drewN m := by
 by_cases h : n < 0
 ·have H := h_ (show intL n = [45] ++ txt 10 (-n).toNat by unfold intL; rw [if_pos h])
  have hs : IntKind.u64.signed = false := rfl
  have e1 := e1v n ⟨hn.1, h⟩
  have b1 := f0x 10 (-n).toNat (by decide) (by omega)
  have hcat' : ∀ wx : World, (Op.stringOp .add { data := #[45] } (ba (txt 10 (-n).toNat))).run Tryz.prog wx = .ok (.string (ba ([45] ++ txt 10 (-n).toNat))) wx := k0z (P := Tryz.prog) [45] (txt 10 (-n).toNat) (by simp; omega)
  clear b1
  go_enter Tryz.func36, Tryz.ntmps36
  go_wp2_with (go_at_call 64; refine (r0f 10 _ _ (.inl rfl) (by omega)).mono ?_; rintro e w' ⟨rfl, m, rfl⟩; rw [show (10 : Int).toNat = 10 from rfl])
  go_ret
  exact ⟨k0b (congrArg Value.string (congrArg ba H.out.symm)), _, rfl⟩
 ·have H := h_ (show intL n = txt 10 n.toNat by unfold intL; rw [if_neg h])
  go_enter Tryz.func36, Tryz.ntmps36
  go_wp2_with (go_at_call 64; refine (r0f 10 _ _ (.inl rfl) (by omega)).mono ?_; rintro e w' ⟨rfl, m, rfl⟩; rw [show (10 : Int).toNat = 10 from rfl])
  go_ret
  exact ⟨k0b (congrArg Value.string (congrArg ba H.out.symm)), _, rfl⟩
end
section
open Go.RowKit
theorem m0n (n : Int) (w : World) (hn : -9223372036854775808 ≤ n ∧ n ≤ 9223372036854775807) :
  Calls Tryz.prog 37 #[.int .i64 n] w fun e w' => e = .returned (.string (ba (regL n))) ∧ ∃ m, w' = w.drewN m := by
 by_cases h31 : n = 31
 ·subst h31
  go_enter Tryz.func37, Tryz.ntmps37
  go_wp2_with fail
  go_ret
  exact ⟨rfl, 0, rfl⟩
 ·by_cases hr : 0 ≤ n ∧ n < 31
  ·have H := h_ (show regL n = [88] ++ intL n by unfold regL; rw [if_neg h31, if_pos hr])
   obtain ⟨h0, h1⟩ := hr
   have h1a : ¬ (30 : Int) < n := by omega
   have h0a : ¬ n < 0 := by omega
   have h31b : (n == 31) = false := by rw [beq_eq_false_iff_ne]; exact h31
   have b1 := c0p n hn
   have hcat : ∀ wx : World, (Op.stringOp .add { data := #[88] } (ba (intL n))).run Tryz.prog wx = .ok (.string (ba ([88] ++ intL n))) wx := k0z (P := Tryz.prog) [88] (intL n) (by simp; omega)
   have HI := h_ (fun w1 : World => l0f n w1 hn)
   go_enter Tryz.func37, Tryz.ntmps37
   go_wp2_with fail
   refine (HI.out _).mono ?_
   rintro e w' ⟨rfl, m, rfl⟩
   go_wp2_with fail
   go_ret
   exact ⟨by rw [H.out]; rfl, _, rfl⟩
  ·have H := h_ (show regL n = [] by unfold regL; rw [if_neg h31, if_neg hr])
   have h31b : (n == 31) = false := by rw [beq_eq_false_iff_ne]; exact h31
   by_cases h0 : 0 ≤ n
   ·have h1 : ¬ n < 31 := fun h => hr ⟨h0, h⟩
    have h0a : ¬ n < 0 := by omega
    have h1b : (30 : Int) < n := by omega
    go_enter Tryz.func37, Tryz.ntmps37
    go_wp2_with fail
    go_ret
    exact ⟨by rw [H.out]; rfl, 0, rfl⟩
   ·go_enter Tryz.func37, Tryz.ntmps37
    go_wp2_with fail
    go_ret
    exact ⟨by rw [H.out]; rfl, 0, rfl⟩
end
section
open Go.RowKit
def r0d (ks : List Int) (k : Int) (T : List UInt8) : List UInt8 := if k ∈ ks then [40] ++ T ++ [41] else T
theorem l1v {ks : List Int} {j : Nat} (hj : j < ks.length) (T : List UInt8) : r0d ks ks[j] T = [40] ++ T ++ [41] := if_pos (List.getElem_mem hj)
theorem f1k {ks : List Int} {k : Int} (h : ∀ x ∈ ks, ¬ k = x) (T : List UInt8) : r0d ks k T = T := if_neg (fun hm => h k hm rfl)
theorem f1q {ks : List Int} {j : Nat} {k : Int} (hj : j < ks.length) (h : ∀ x ∈ ks.take j, ¬ k = x) (hn : ¬ k = ks[j]) : ∀ x ∈ ks.take (j + 1), ¬ k = x := by
 rw [List.take_succ_eq_append_getElem hj]
 intro x hx
 rcases List.mem_append.1 hx with h1 | h1
 ·exact h x h1
 ·rw [List.mem_singleton.1 h1]; exact hn
def v0h : CT → Int
 | .mk k _ _ _ _ _ => k
def s0b (t : CT) : Prop := ∀ (cores : Int) (w : World) (S : Nat → Prop) (cs : List Value), a0u t ≤ 1000 → b0v cores t = 0 → CT.At w S t cs →
  Calls Tryz.prog 39 #[.agg cs.toArray] w fun e w' => e = .returned (.string (ba (a0f t))) ∧ Below w.heap.size w w'
theorem a1b (ks : List Int) (j : Nat) (hj : j < ks.length) : (ks.map (Value.int .i64))[j]? = some (.int .i64 ks[j]) := by simp [hj]
theorem h0s (t : CT) (hp : s0b t) (cores : Int) (ks : List Int) (hks : ks.length ≤ 4) (g : Nat) (w : World) (S : Nat → Prop) (cs : List Value) (hc : a0u t ≤ 1000) (hr : b0v cores t = 0) (h : CT.At w S t cs) (hk : Blk w 3 g (ks.map (Value.int .i64))) :
  Calls Tryz.prog 69 #[.agg cs.toArray, .slice (some ⟨g, 0, none⟩) ks.length ks.length] w fun e w' => e = .returned (.string (ba (r0d ks (v0h t) (a0f t)))) ∧ Below w.heap.size w w' := by
 have hln := d0o t (CT.At.fits t cs h)
 have HP := h_ (fun w2 S2 (h2 : CT.At w2 S2 t cs) => hp cores w2 S2 cs hc hr h2)
 have H0 := h_ h
 obtain ⟨k, c, r, a, v, args⟩ := t
 obtain ⟨p, cap, rfl, _⟩ := h.own
 generalize args.length = ln at *
 have HB := h_ (show Below w.heap.size w (w.alloc (.cells #[.int .i64 k, .int .i64 c, .int .i64 r, .int .u64 (a : Nat), .int .u64 (v : Nat), .slice p ln cap] 29)) from bl_ (Below.refl _ _) _)
 have HN := h_ (l0w w #[.int .i64 k, .int .i64 c, .int .i64 r, .int .u64 (a : Nat), .int .u64 (v : Nat), .slice p ln cap])
 have HK := h_ (hk.alloc (.cells #[.int .i64 k, .int .i64 c, .int .i64 r, .int .u64 (a : Nat), .int .u64 (v : Nat), .slice p ln cap] 29))
 have H1 := h_ (H0.out.below HB.out)
 rw [show v0h (.mk k c r a v args) = k from rfl]
 clear h H0 hk hp hr
 generalize a0f (.mk k c r a v args) = TX at *
 have HIN := h_ (fun j (hj : j < ks.length) => l1v hj TX)
 have HOUT := h_ (fun (h : ∀ x ∈ ks, ¬ k = x) => f1k h TX)
 obtain ⟨A1, hA1⟩ : ∃ A : List UInt8, A = [40] ++ TX := ⟨_, rfl⟩
 obtain ⟨A2, hA2⟩ : ∃ A : List UInt8, A = A1 ++ [41] := ⟨_, rfl⟩
 have hcat1 : ∀ wx : World, (Op.stringOp .add { data := #[40] } (ba TX)).run Tryz.prog wx = .ok (.string (ba A1)) wx := m0z (P := Tryz.prog) [40] TX A1 hA1 (by simp; omega)
 have hcat2 : ∀ wx : World, (Op.stringOp .add (ba A1) { data := #[41] }).run Tryz.prog wx = .ok (.string (ba A2)) wx := m0z (P := Tryz.prog) A1 [41] A2 hA2 (by rw [hA1]; simp; omega)
 have HA := h_ (show A2 = [40] ++ TX ++ [41] by rw [hA2, hA1])
 have HT := h_ (fun j (hj : j < ks.length) (hx : ∀ x ∈ ks.take j, ¬ k = x) hn => f1q hj hx hn)
 have HCI := h_ (a1b ks)
 clear hA1 hA2
 obtain ⟨R, hR⟩ : ∃ R, R = r0d ks k TX := ⟨_, rfl⟩
 rw [← hR]
 have HR := h_ hR
 clear hR
 obtain ⟨kl, hkl⟩ : ∃ n, ks.length = n := ⟨_, rfl⟩
 rw [hkl] at hks ⊢
 go_enter Tryz.func69, Tryz.ntmps69
 generalize hW1 : w.alloc (.cells #[.int .i64 k, .int .i64 c, .int .i64 r, .int .u64 (a : Nat), .int .u64 (v : Nat), .slice p ln cap] 29) = w1 at *
 have HW1 := h_ hW1
 clear hW1
 obtain ⟨n0, n1, n2, n3, n4, n5⟩ := c0n HN.out
 go_wp2_with fail
 go_loopw [5] (fun i wr => ∃ j : Nat, j ≤ kl ∧ i = .int .i64 j ∧ (∀ x ∈ ks.take j, ¬ k = x) ∧ Below w1.heap.size w1 wr) (fun i _ => kl - (intOf i).toNat)
 case atStart => exact ⟨0, by omega, rfl, fun x hx => by simp at hx, by rw [HW1.out]; exact Below.refl _ _⟩
 case round =>
  obtain ⟨j, hj, rfl, hall, hb⟩ := hrel
  have HBR := h_ hb
  have HALL := h_ hall
  have n0r := cell_below n0 hb
  have n1r := cell_below n1 hb
  have n2r := cell_below n2 hb
  have n3r := cell_below n3 hb
  have n4r := cell_below n4 hb
  have n5r := cell_below n5 hb
  clear hb hall
  by_cases hjl : j < kl
  ·have hj0 : (0 : Int) ≤ j := by omega
   have hjn : (j : Int) < kl := by omega
   have hja : j < ks.length := by rw [hkl]; exact hjl
   have kc : wr.cell? ⟨g, j, none⟩ = some (.int .i64 ks[j]) := by rw [(HK.out.below HBR.out).cell]; exact HCI.out j hja
   have HI2 := h_ (HIN.out j hja)
   have HT2 := h_ (HT.out j hja)
   generalize ks[j] = q at *
   by_cases hq : k = q
   ·subst hq
    have HC := h_ (fun n => HP.out _ _ (H1.out.below (bd_ HBR.out n)))
    have HF := h_ (show R = A2 by rw [HR.out, HI2.out, HA.out])
    go_wp2_with fail
    go_quiet (fail)
    go_wp2_with fail
    refine (HC.out _).mono ?_
    rintro e w4 ⟨rfl, hb⟩
    have HB4 := h_ (bt_ (bd_ (bt_ HB.out HBR.out) _) hb)
    clear hb HC
    go_wp2_with fail
    go_ret
    exact ⟨by rw [HF.out]; rfl, HB4.out⟩
   ·have hqb : (k == q) = false := by rw [beq_eq_false_iff_ne]; exact hq
    have HT3 := h_ (HT2.out HALL.out hq)
    go_wp2_with fail
    go_quiet (fail)
    go_wp2_with fail
    go_roundw
    case rel => exact ⟨j + 1, by omega, by go_num, HT3.out, bd_ HBR.out _⟩
    case measure => simp [intOf]; omega
  ·obtain rfl : j = kl := by omega
   have HF := h_ (show R = TX by rw [HR.out]; exact HOUT.out (fun x hx => HALL.out x (by rw [← hkl, List.take_length]; exact hx)))
   have HC := h_ (HP.out _ _ (H1.out.below HBR.out))
   go_wp2_with fail
   refine (HC.out).mono ?_
   rintro e w4 ⟨rfl, hb⟩
   have HB4 := h_ (bt_ (bt_ HB.out HBR.out) hb)
   clear hb HC
   go_wp2_with fail
   go_ret
   exact ⟨by rw [HF.out]; rfl, HB4.out⟩
theorem k0p (v : Nat) (w : World) (hv : v < 18446744073709551616) : Calls Tryz.prog 35 #[.int .u64 (v : Nat)] w fun e w' => e = .returned (.string (ba (hexL v))) ∧ ∃ m, w' = w.drewN m := by
 have h := g1z (v : Nat) w ⟨by omega, by omega⟩
 rw [Int.toNat_natCast] at h
 exact h
theorem m0h (t : CT) (T : List UInt8) : r0d [5] (v0h t) T = c0e 2 (a0z t, T) := by
 obtain ⟨k, c, r, a, v, args⟩ := t
 unfold r0d c0e a0z v0h
 by_cases h5 : k = 5
 ·subst h5; simp
 ·by_cases h4 : k = 4 <;> simp [h5, h4]
theorem l0d (t : CT) (T : List UInt8) : r0d [5, 4] (v0h t) T = c0e 3 (a0z t, T) ∧ r0d [4, 5] (v0h t) T = c0e 3 (a0z t, T) := by
 obtain ⟨k, c, r, a, v, args⟩ := t
 unfold r0d c0e a0z v0h
 by_cases h5 : k = 5
 ·subst h5; simp
 ·by_cases h4 : k = 4 <;> simp [h5, h4]
theorem e1i (t : CT) (T : List UInt8) : c0e 1 (a0z t, T) = T := by
 obtain ⟨k, c, r, a, v, args⟩ := t
 unfold c0e a0z
 by_cases h5 : k = 5
 ·subst h5; simp
 ·by_cases h4 : k = 4 <;> simp [h5, h4]
theorem y0l : ∀ (t : CT), s0b t := by
 intro t
 refine CT.ind (P := s0b) ?_ t
 intro k c r a v args IH cores w S cs hc hrt ht
 have hln := d0o _ (CT.At.fits _ _ ht)
 obtain ⟨p, cap, rfl, h1, h2, h3, h4, h5⟩ := ht.own
 obtain ⟨hv, hk, hcI, hrI⟩ := h4
 obtain ⟨hh0, hra⟩ := c1o hrt
 obtain ⟨hk7, hwant, hr1, hc1⟩ := n1t hh0
 have HI := h_ IH
 have HRA := h_ hra
 generalize hlen : args.length = ln at *
 have HN := h_ (l0w w #[.int .i64 k, .int .i64 c, .int .i64 r, .int .u64 (a : Nat), .int .u64 (v : Nat), .slice p ln cap])
 have HB := h_ (show Below w.heap.size w (w.alloc (.cells #[.int .i64 k, .int .i64 c, .int .i64 r, .int .u64 (a : Nat), .int .u64 (v : Nat), .slice p ln cap] 29)) from bl_ (Below.refl _ _) _)
 have HR := h_ (h5.below HB.out)
 have HV := h_ (show a0f (.mk k c r a v args) = n0j k (intL c) (regL r) (hexL a) (hexL v) (f0i args) from rfl)
 have hcap : cap ≤ 9223372036854775807 := by unfold maxLen at h2; omega
 have HLC := h_ (show a0u (.mk k c r a v args) = 1 + b0y args from rfl)
 clear ht IH h5 hrt hh0 hra
 generalize a0f (.mk k c r a v args) = R at *
 have b1 := c0p c hcI
 have b2 := h0w r hrI
 have b3 := l0g a h3
 have b4 := l0g v hv
 obtain ⟨n0, n1, n2, n3, n4, n5⟩ := c0n HN.out
 have HHex := h_ (fun w1 => k0p v w1 hv)
 have HHexA := h_ (fun w1 => k0p a w1 h3)
 have HHexB := h_ (fun w1 => (k0p v w1 hv).mono fun e w' (h : e = .returned (.string (ba (hexL v))) ∧ ∃ m, w' = w1.drewN m) => show e = .returned (.string (ba (hexL v))) ∧ Below w1.heap.size w1 w' from ⟨h.1, by obtain ⟨m, rfl⟩ := h.2; exact bd_ (Below.refl _ _) m⟩)
 have HInt := h_ (fun w1 => l0f c w1 hcI)
 have HReg := h_ (fun w1 => m0n r w1 hrI)
 generalize hexL v = X4 at *
 generalize hexL a = X3 at *
 generalize intL c = X1 at *
 generalize regL r = X2 at *
 by_cases k1 : k = 1
 ·subst k1
  obtain ⟨AV, hAV, hcatv⟩ := catx (P := Tryz.prog) [61] X4 (x := { data := #[61] }) rfl (y := (ba X4)) rfl (by simp; omega)
  have bV : AV.length ≤ 67 := by rw [hAV]; simp; omega
  obtain ⟨A1, hA1, hcat1⟩ := catx (P := Tryz.prog) X1 [58] (x := (ba X1)) rfl (y := { data := #[58] }) rfl (by simp; omega)
  obtain ⟨A2, hA2, hcat2⟩ := catx (P := Tryz.prog) A1 X2 (x := (ba A1)) rfl (y := (ba X2)) rfl (by rw [hA1]; simp; omega)
  obtain ⟨A3, hA3, hcat3⟩ := catx (P := Tryz.prog) A2 AV (x := (ba A2)) rfl (y := (ba AV)) rfl (by rw [hA2]; rw [hA1]; simp; omega)
  have HA := h_ (show A3 = X1 ++ [58] ++ X2 ++ [61] ++ X4 by rw [hA3, hA2, hA1, hAV]; simp)
  clear hAV hA1 hA2 hA3 bV
  have HF := h_ (show R = A3 by rw [HV.out, HA.out]; rfl)
  clear HV HA HI HR HRA
  go_enter Tryz.func39, Tryz.ntmps39
  go_wp2_with fail
  refine (HHex.out _).mono ?_
  rintro e w' ⟨rfl, m, rfl⟩
  go_wp2_with fail
  refine wp_region_held_drew (S := (fun w' => w'.cell? ⟨w.heap.size, 1, none⟩ = some (.int .i64 c) ∧ w'.cell? ⟨w.heap.size, 2, none⟩ = some (.int .i64 r))) (by kernel_rfl) (by (try dsimp only); exact ⟨n1, n2⟩) (fun hHeld => ?_)
  refine tk1 0 12 rfl ?_
  simp only [Act.put, tka, tk0, tkS]
  refine tk1 1 13 rfl ?_
  simp only [Act.put, tka, tk0, tkS]
  refine tk1 4 16 rfl ?_
  simp only [Act.put, tka, tk0, tkS]
  refine tk1 5 17 rfl ?_
  simp only [Act.put, tka, tk0, tkS]
  refine tk1 8 20 rfl ?_
  simp only [Act.put, tka, tk0, tkS]
  refine wpAnyH_ready (rs := [2]) (by kernel_rfl) (by simp) ?_
  refine AllReadyH.cons (o := ⟨some 14, _, _, _, _, _⟩) rfl (fun K hK => ?_) AllReadyH.nil
  go_simp
  go_at_call 36; refine (HInt.out _).mono ?_; rintro e w' ⟨rfl, m1, rfl⟩
  refine hK.out _ _ (by (try dsimp only); exact ⟨n1, n2⟩) ?_
  clear hK K hHeld
  intro hHeld
  try simp only [Act.put, tka, tk0, tkS]
  refine tk1 3 15 rfl ?_
  simp only [Act.put, tka, tk0, tkS]
  refine wpAnyH_ready (rs := [6]) (by kernel_rfl) (by simp) ?_
  refine AllReadyH.cons (o := ⟨some 18, _, _, _, _, _⟩) rfl (fun K hK => ?_) AllReadyH.nil
  go_simp
  go_at_call 37; refine (HReg.out _).mono ?_; rintro e w' ⟨rfl, m2, rfl⟩
  refine hK.out _ _ (by (try dsimp only); exact ⟨n1, n2⟩) ?_
  clear hK K hHeld
  intro hHeld
  try simp only [Act.put, tka, tk0, tkS]
  refine tk1 7 19 rfl ?_
  simp only [Act.put, tka, tk0, tkS]
  refine tk1 9 21 rfl ?_
  simp only [Act.put, tka, tk0, tkS]
  refine tk1 10 2 rfl ?_
  simp only [Act.put, tka, tk0, tkS]
  refine wpAnyH_done (by kernel_rfl) ?_ _
  go_wp2_with fail
  go_ret
  exact ⟨by rw [HF.out]; rfl, by repeat (first | exact HB.out | refine bd_ ?_ _ | refine Below.drew ?_)⟩
 by_cases k2 : k = 2
 ·subst k2
  obtain ⟨AV, hAV, hcatv⟩ := catx (P := Tryz.prog) [61] X4 (x := { data := #[61] }) rfl (y := (ba X4)) rfl (by simp; omega)
  have bV : AV.length ≤ 67 := by rw [hAV]; simp; omega
  obtain ⟨A1, hA1, hcat1⟩ := catx (P := Tryz.prog) [91] X3 (x := { data := #[91] }) rfl (y := (ba X3)) rfl (by simp; omega)
  obtain ⟨A2, hA2, hcat2⟩ := catx (P := Tryz.prog) A1 [93] (x := (ba A1)) rfl (y := { data := #[93] }) rfl (by rw [hA1]; simp; omega)
  obtain ⟨A3, hA3, hcat3⟩ := catx (P := Tryz.prog) A2 AV (x := (ba A2)) rfl (y := (ba AV)) rfl (by rw [hA2]; rw [hA1]; simp; omega)
  have HA := h_ (show A3 = [91] ++ X3 ++ [93, 61] ++ X4 by rw [hA3, hA2, hA1, hAV]; simp)
  clear hAV hA1 hA2 hA3 bV
  have HF := h_ (show R = A3 by rw [HV.out, HA.out]; rfl)
  clear HV HA HI HR HRA
  go_enter Tryz.func39, Tryz.ntmps39
  go_wp2_with fail
  refine (HHex.out _).mono ?_
  rintro e w' ⟨rfl, m, rfl⟩
  go_wp2_with fail
  refine (HHexA.out _).mono ?_
  rintro e w' ⟨rfl, m', rfl⟩
  go_wp2_with fail
  go_ret
  exact ⟨by rw [HF.out]; rfl, bd_ HB.out _⟩
 by_cases k3 : k = 3
 ·subst k3
  obtain ⟨AV, hAV, hcatv⟩ := catx (P := Tryz.prog) [61] X4 (x := { data := #[61] }) rfl (y := (ba X4)) rfl (by simp; omega)
  have bV : AV.length ≤ 67 := by rw [hAV]; simp; omega
  obtain ⟨A1, hA1, hcat1⟩ := catx (P := Tryz.prog) [102, 97, 117, 108, 116, 115, 32] X1 (x := { data := #[102, 97, 117, 108, 116, 115, 32] }) rfl (y := (ba X1)) rfl (by simp; omega)
  obtain ⟨A2, hA2, hcat2⟩ := catx (P := Tryz.prog) A1 AV (x := (ba A1)) rfl (y := (ba AV)) rfl (by rw [hA1]; simp; omega)
  have HA := h_ (show A2 = [102, 97, 117, 108, 116, 115, 32] ++ X1 ++ [61] ++ X4 by rw [hA2, hA1, hAV]; simp)
  clear hAV hA1 hA2 bV
  have HF := h_ (show R = A2 by rw [HV.out, HA.out]; rfl)
  clear HV HA HI HR HRA
  go_enter Tryz.func39, Tryz.ntmps39
  go_wp2_with fail
  refine (HHex.out _).mono ?_
  rintro e w' ⟨rfl, m, rfl⟩
  go_wp2_with fail
  refine (HInt.out _).mono ?_
  rintro e w' ⟨rfl, m', rfl⟩
  go_wp2_with fail
  go_ret
  exact ⟨by rw [HF.out]; rfl, bd_ HB.out _⟩
 have hcatv : ∀ wx : World, (Op.stringOp .add { data := #[61] } (ba X4)).run Tryz.prog wx = .ok (.string (ba ([61] ++ X4))) wx := k0z (P := Tryz.prog) [61] X4 (by simp; omega)
 by_cases k7 : k = 7
 ·subst k7
  have HF := h_ (show R = [116, 114, 117, 101] by rw [HV.out]; rfl)
  clear HV HI HR HRA
  go_enter Tryz.func39, Tryz.ntmps39
  go_wp2_with fail
  refine (HHex.out _).mono ?_
  rintro e w' ⟨rfl, m, rfl⟩
  go_wp2_with fail
  go_ret
  exact ⟨by rw [HF.out]; rfl, bd_ HB.out _⟩
 by_cases k6 : k = 6
 ·subst k6
  obtain rfl : ln = 1 := by have : f0j 6 = 1 := rfl; omega
  clear hwant hr1 hc1 hk7
  obtain ⟨u, rfl⟩ := List.length_eq_one_iff.1 hlen
  have hcu : a0u u ≤ 1000 := by have := HLC.out; simp only [b0y] at this; omega
  have HRU := h_ (HRA.out u (by simp))
  go_enter Tryz.func39, Tryz.ntmps39
  go_wp2_with fail
  refine (HHexB.out _).mono ?_
  rintro e w1 ⟨rfl, hbx⟩
  have HB1 := h_ (bt_ HB.out hbx)
  have n0 := cell_below n0 hbx
  have n5 := cell_below n5 hbx
  have hpart := (HR.out.below hbx).part (j := 0) (by simp)
  simp only [List.getElem_cons_zero, List.getElem_cons_succ, Nat.zero_mul, Nat.one_mul, Nat.add_zero] at hpart
  obtain ⟨g, off, j0, j1, j2, j3, j4, jp, jl, jc, rfl, c0, c1, c2, c3, c4, c5, hu⟩ := hpart
  have hlu := d0o u (CT.At.fits _ _ hu)
  have hil := b0q 3 (a0z u, a0f u)
  simp only at hil
  have HC := h_ (h0s u (HI.out u (by simp)) cores [4, 5] (by simp) w1.heap.size _ _ _ hcu HRU.out (hu.below (bl_ (Below.refl _ _) (.cells #[.int .i64 4, .int .i64 5] 3))) (Blk.new w1 3 [.int .i64 4, .int .i64 5]))
  rw [(l0d u _).2] at HC
  have HV2 := h_ (show R = [126] ++ c0e 3 (a0z u, a0f u) from by rw [HV.out]; rfl)
  have HB2 := h_ (bt_ HB1.out (bl_ (Below.refl _ _) (.cells #[.int .i64 4, .int .i64 5] 3)))
  clear hu HI HV HR HRA
  generalize c0e 3 (a0z u, a0f u) = X at *
  obtain ⟨A1, hA1, hcat1⟩ := catx (P := Tryz.prog) [126] X (x := { data := #[126] }) rfl (y := (ba X)) rfl (by simp; omega)
  have HA := h_ (show R = A1 by rw [hA1, HV2.out])
  clear hA1 HV2
  go_wp2_with fail
  refine (HC.out).mono ?_
  rintro e w3 ⟨rfl, hb⟩
  have HB3 := h_ (bt_ HB2.out hb)
  clear hb HC
  go_wp2_with fail
  go_ret
  exact ⟨by rw [HA.out]; rfl, HB3.out⟩
 by_cases k4 : k = 4
 ·subst k4
  obtain rfl : ln = 2 := by have : f0j 4 = 2 := rfl; omega
  clear hwant hr1 hc1 hk7
  obtain ⟨u, t, rfl⟩ := z0c hlen
  have hcc := HLC.out
  simp only [b0y] at hcc
  have hcu : a0u u ≤ 1000 := by omega
  have hct : a0u t ≤ 1000 := by omega
  have HRU := h_ (HRA.out u (by simp))
  have HRT := h_ (HRA.out t (by simp))
  go_enter Tryz.func39, Tryz.ntmps39
  go_wp2_with fail
  refine (HHexB.out _).mono ?_
  rintro e w1 ⟨rfl, hbx⟩
  have HB1 := h_ (bt_ HB.out hbx)
  have n0 := cell_below n0 hbx
  have n5 := cell_below n5 hbx
  have hpart := (HR.out.below hbx).part (j := 0) (by simp)
  simp only [List.getElem_cons_zero, List.getElem_cons_succ, Nat.zero_mul, Nat.one_mul, Nat.add_zero] at hpart
  obtain ⟨g, off, j0, j1, j2, j3, j4, jp, jl, jc, rfl, c0, c1, c2, c3, c4, c5, hu⟩ := hpart
  have hpart := (HR.out.below hbx).part (j := 1) (by simp)
  simp only [List.getElem_cons_zero, List.getElem_cons_succ, Nat.zero_mul, Nat.one_mul, Nat.add_zero] at hpart
  obtain ⟨g2, off2, i0, i1, i2, i3, i4, ip, il, ic, hgo, d0, d1, d2, d3, d4, d5, ht⟩ := hpart
  injection hgo with hgo
  injection hgo with hg1 hg2
  subst hg1 hg2
  have hlu := d0o u (CT.At.fits _ _ hu)
  have hlt := d0o t (CT.At.fits _ _ ht)
  have hil := b0q 2 (a0z u, a0f u)
  have hjl := b0q 3 (a0z t, a0f t)
  simp only at hil hjl
  have HU := h_ hu
  have HT := h_ ht
  have HV2 := h_ (show R = c0e 2 (a0z u, a0f u) ++ [32, 47, 92, 32] ++ c0e 3 (a0z t, a0f t) from by rw [HV.out]; rfl)
  clear hu ht HV HR HRA
  obtain ⟨A1, hA1, hcat1⟩ := catx (P := Tryz.prog) (c0e 2 (a0z u, a0f u)) [32, 47, 92, 32] (x := (ba (c0e 2 (a0z u, a0f u)))) rfl (y := { data := #[32, 47, 92, 32] }) rfl (by simp; omega)
  obtain ⟨A2, hA2, hcat2⟩ := catx (P := Tryz.prog) A1 (c0e 3 (a0z t, a0f t)) (x := (ba A1)) rfl (y := (ba (c0e 3 (a0z t, a0f t)))) rfl (by rw [hA1]; simp; omega)
  have HA := h_ (show R = A2 by rw [HV2.out, hA2, hA1])
  clear hA1 hA2 HV2
  have bw0 := Below.refl w1.heap.size w1
  go_wp2_with fail
  refine wp_region_held_drew (S := (fun w' => w'.cell? ⟨w.heap.size, 5, none⟩ = some (.slice (some ⟨g, off, none⟩) 2 cap) ∧ w'.cell? ⟨g, off, none⟩ = some (.int .i64 j0) ∧ w'.cell? ⟨g, off + 1, none⟩ = some (.int .i64 j1) ∧ w'.cell? ⟨g, off + 2, none⟩ = some (.int .i64 j2) ∧ w'.cell? ⟨g, off + 3, none⟩ = some (.int .u64 j3) ∧ w'.cell? ⟨g, off + 4, none⟩ = some (.int .u64 j4) ∧ w'.cell? ⟨g, off + 5, none⟩ = some (.slice jp jl jc) ∧ w'.cell? ⟨g, off + 6, none⟩ = some (.int .i64 i0) ∧ w'.cell? ⟨g, off + 6 + 1, none⟩ = some (.int .i64 i1) ∧ w'.cell? ⟨g, off + 6 + 2, none⟩ = some (.int .i64 i2) ∧ w'.cell? ⟨g, off + 6 + 3, none⟩ = some (.int .u64 i3) ∧ w'.cell? ⟨g, off + 6 + 4, none⟩ = some (.int .u64 i4) ∧ w'.cell? ⟨g, off + 6 + 5, none⟩ = some (.slice ip il ic))) (by kernel_rfl) (by (try dsimp only); exact ⟨cell_below n5 bw0.drew, cell_below c0 bw0.drew, cell_below c1 bw0.drew, cell_below c2 bw0.drew, cell_below c3 bw0.drew, cell_below c4 bw0.drew, cell_below c5 bw0.drew, cell_below d0 bw0.drew, cell_below d1 bw0.drew, cell_below d2 bw0.drew, cell_below d3 bw0.drew, cell_below d4 bw0.drew, cell_below d5 bw0.drew⟩) (fun hHeld => ?_)
  refine tk1 0 50 rfl ?_
  simp only [Act.put, tka, tk0, tkS]
  refine tk1 1 51 rfl ?_
  simp only [Act.put, tka, tk0, tkS]
  refine tk1 2 52 rfl ?_
  simp only [Act.put, tka, tk0, tkS]
  refine tk1 3 53 rfl ?_
  simp only [Act.put, tka, tk0, tkS]
  refine tk1 7 57 rfl ?_
  simp only [Act.put, tka, tk0, tkS]
  refine tk1 8 58 rfl ?_
  simp only [Act.put, tka, tk0, tkS]
  refine tk1 9 59 rfl ?_
  simp only [Act.put, tka, tk0, tkS]
  refine tk1 10 60 rfl ?_
  simp only [Act.put, tka, tk0, tkS]
  refine wpAnyH_ready (rs := [4, 11]) (by kernel_rfl) (by simp) ?_
  refine AllReadyH.cons (o := ⟨some 54, _, _, _, _, _⟩) rfl (fun K hK => ?_) ?_
  ·go_simp
   have bw1 := bl_ bw0 (.cells #[.int .i64 5] 3)
   have k1_1 : Blk ((w1).alloc (.cells #[.int .i64 5] 3)) 3 (w1.heap.size) [.int .i64 5] := by simpa using Blk.new (w1) 3 [.int .i64 5]
   refine hK.out _ _ (by (try dsimp only); exact ⟨cell_below n5 bw1.drew, cell_below c0 bw1.drew, cell_below c1 bw1.drew, cell_below c2 bw1.drew, cell_below c3 bw1.drew, cell_below c4 bw1.drew, cell_below c5 bw1.drew, cell_below d0 bw1.drew, cell_below d1 bw1.drew, cell_below d2 bw1.drew, cell_below d3 bw1.drew, cell_below d4 bw1.drew, cell_below d5 bw1.drew⟩) ?_
   clear hK K hHeld
   intro hHeld
   try simp only [Act.put, tka, tk0, tkS]
   refine wpAnyH_ready (rs := [5, 11]) (by kernel_rfl) (by simp) ?_
   refine AllReadyH.cons (o := ⟨some 55, _, _, _, _, _⟩) rfl (fun K hK => ?_) ?_
   ·go_simp
    go_at_call 69
    have hcx := h0s u (HI.out u (by simp)) cores [5] (by simp) _ _ _ _ hcu HRU.out (HU.out.below bw1.drew) (f0o k1_1)
    rw [m0h] at hcx
    refine hcx.mono ?_
    clear hcx
    rintro e w2 ⟨rfl, hb⟩
    have bw2 := bt_ bw1.drew hb
    have k1_2 := Blk.below (f0o k1_1) hb
    clear hb
    refine hK.out _ _ (by (try dsimp only); exact ⟨cell_below n5 bw2, cell_below c0 bw2, cell_below c1 bw2, cell_below c2 bw2, cell_below c3 bw2, cell_below c4 bw2, cell_below c5 bw2, cell_below d0 bw2, cell_below d1 bw2, cell_below d2 bw2, cell_below d3 bw2, cell_below d4 bw2, cell_below d5 bw2⟩) ?_
    clear hK K hHeld
    intro hHeld
    try simp only [Act.put, tka, tk0, tkS]
    refine tk1 6 56 rfl ?_
    simp only [Act.put, tka, tk0, tkS]
    refine wpAnyH_ready (rs := [11]) (by kernel_rfl) (by simp) ?_
    refine AllReadyH.cons (o := ⟨some 61, _, _, _, _, _⟩) rfl (fun K hK => ?_) AllReadyH.nil
    go_simp
    have bw3 := bl_ bw2 (.cells #[.int .i64 5, .int .i64 4] 3)
    have k1_3 := Blk.alloc k1_2 (.cells #[.int .i64 5, .int .i64 4] 3)
    have k2_3 : Blk ((w2).alloc (.cells #[.int .i64 5, .int .i64 4] 3)) 3 (w2.heap.size) [.int .i64 5, .int .i64 4] := by simpa using Blk.new (w2) 3 [.int .i64 5, .int .i64 4]
    refine hK.out _ _ (by (try dsimp only); exact ⟨cell_below n5 bw3, cell_below c0 bw3, cell_below c1 bw3, cell_below c2 bw3, cell_below c3 bw3, cell_below c4 bw3, cell_below c5 bw3, cell_below d0 bw3, cell_below d1 bw3, cell_below d2 bw3, cell_below d3 bw3, cell_below d4 bw3, cell_below d5 bw3⟩) ?_
    clear hK K hHeld
    intro hHeld
    try simp only [Act.put, tka, tk0, tkS]
    refine wpAnyH_ready (rs := [12]) (by kernel_rfl) (by simp) ?_
    refine AllReadyH.cons (o := ⟨some 62, _, _, _, _, _⟩) rfl (fun K hK => ?_) AllReadyH.nil
    go_simp
    go_at_call 69
    have hcx := h0s t (HI.out t (by simp)) cores [5, 4] (by simp) _ _ _ _ hct HRT.out (HT.out.below bw3) k2_3
    rw [(l0d t _).1] at hcx
    refine hcx.mono ?_
    clear hcx
    rintro e w4 ⟨rfl, hb⟩
    have bw4 := bt_ bw3 hb
    have k1_4 := Blk.below k1_3 hb
    have k2_4 := Blk.below k2_3 hb
    clear hb
    refine hK.out _ _ (by (try dsimp only); exact ⟨cell_below n5 bw4, cell_below c0 bw4, cell_below c1 bw4, cell_below c2 bw4, cell_below c3 bw4, cell_below c4 bw4, cell_below c5 bw4, cell_below d0 bw4, cell_below d1 bw4, cell_below d2 bw4, cell_below d3 bw4, cell_below d4 bw4, cell_below d5 bw4⟩) ?_
    clear hK K hHeld
    intro hHeld
    try simp only [Act.put, tka, tk0, tkS]
    refine tk1 13 63 rfl ?_
    simp only [Act.put, tka, tk0, tkS]
    refine tk1 14 2 rfl ?_
    simp only [Act.put, tka, tk0, tkS]
    refine wpAnyH_done (by kernel_rfl) ?_ _
    go_wp2_with fail
    go_ret
    exact ⟨by rw [HA.out]; rfl, bt_ HB1.out bw4⟩
   refine AllReadyH.cons (o := ⟨some 61, _, _, _, _, _⟩) rfl (fun K hK => ?_) ?_
   ·go_simp
    have bw5 := bl_ bw1 (.cells #[.int .i64 5, .int .i64 4] 3)
    have k1_5 := Blk.alloc k1_1 (.cells #[.int .i64 5, .int .i64 4] 3)
    have k2_5 : Blk ((((w1).alloc (.cells #[.int .i64 5] 3))).alloc (.cells #[.int .i64 5, .int .i64 4] 3)) 3 (w1.heap.size + 1) [.int .i64 5, .int .i64 4] := by simpa using Blk.new (((w1).alloc (.cells #[.int .i64 5] 3))) 3 [.int .i64 5, .int .i64 4]
    refine hK.out _ _ (by (try dsimp only); exact ⟨cell_below n5 bw5.drew, cell_below c0 bw5.drew, cell_below c1 bw5.drew, cell_below c2 bw5.drew, cell_below c3 bw5.drew, cell_below c4 bw5.drew, cell_below c5 bw5.drew, cell_below d0 bw5.drew, cell_below d1 bw5.drew, cell_below d2 bw5.drew, cell_below d3 bw5.drew, cell_below d4 bw5.drew, cell_below d5 bw5.drew⟩) ?_
    clear hK K hHeld
    intro hHeld
    try simp only [Act.put, tka, tk0, tkS]
    refine wpAnyH_ready (rs := [5]) (by kernel_rfl) (by simp) ?_
    refine AllReadyH.cons (o := ⟨some 55, _, _, _, _, _⟩) rfl (fun K hK => ?_) AllReadyH.nil
    go_simp
    go_at_call 69
    have hcx := h0s u (HI.out u (by simp)) cores [5] (by simp) _ _ _ _ hcu HRU.out (HU.out.below bw5.drew) (f0o k1_5)
    rw [m0h] at hcx
    refine hcx.mono ?_
    clear hcx
    rintro e w6 ⟨rfl, hb⟩
    have bw6 := bt_ bw5.drew hb
    have k1_6 := Blk.below (f0o k1_5) hb
    have k2_6 := Blk.below (f0o k2_5) hb
    clear hb
    refine hK.out _ _ (by (try dsimp only); exact ⟨cell_below n5 bw6, cell_below c0 bw6, cell_below c1 bw6, cell_below c2 bw6, cell_below c3 bw6, cell_below c4 bw6, cell_below c5 bw6, cell_below d0 bw6, cell_below d1 bw6, cell_below d2 bw6, cell_below d3 bw6, cell_below d4 bw6, cell_below d5 bw6⟩) ?_
    clear hK K hHeld
    intro hHeld
    try simp only [Act.put, tka, tk0, tkS]
    refine tk1 6 56 rfl ?_
    simp only [Act.put, tka, tk0, tkS]
    refine wpAnyH_ready (rs := [12]) (by kernel_rfl) (by simp) ?_
    refine AllReadyH.cons (o := ⟨some 62, _, _, _, _, _⟩) rfl (fun K hK => ?_) AllReadyH.nil
    go_simp
    go_at_call 69
    have hcx := h0s t (HI.out t (by simp)) cores [5, 4] (by simp) _ _ _ _ hct HRT.out (HT.out.below bw6) k2_6
    rw [(l0d t _).1] at hcx
    refine hcx.mono ?_
    clear hcx
    rintro e w7 ⟨rfl, hb⟩
    have bw7 := bt_ bw6 hb
    have k1_7 := Blk.below k1_6 hb
    have k2_7 := Blk.below k2_6 hb
    clear hb
    refine hK.out _ _ (by (try dsimp only); exact ⟨cell_below n5 bw7, cell_below c0 bw7, cell_below c1 bw7, cell_below c2 bw7, cell_below c3 bw7, cell_below c4 bw7, cell_below c5 bw7, cell_below d0 bw7, cell_below d1 bw7, cell_below d2 bw7, cell_below d3 bw7, cell_below d4 bw7, cell_below d5 bw7⟩) ?_
    clear hK K hHeld
    intro hHeld
    try simp only [Act.put, tka, tk0, tkS]
    refine tk1 13 63 rfl ?_
    simp only [Act.put, tka, tk0, tkS]
    refine tk1 14 2 rfl ?_
    simp only [Act.put, tka, tk0, tkS]
    refine wpAnyH_done (by kernel_rfl) ?_ _
    go_wp2_with fail
    go_ret
    exact ⟨by rw [HA.out]; rfl, bt_ HB1.out bw7⟩
   exact AllReadyH.nil
  refine AllReadyH.cons (o := ⟨some 61, _, _, _, _, _⟩) rfl (fun K hK => ?_) ?_
  ·go_simp
   have bw8 := bl_ bw0 (.cells #[.int .i64 5, .int .i64 4] 3)
   have k2_8 : Blk ((w1).alloc (.cells #[.int .i64 5, .int .i64 4] 3)) 3 (w1.heap.size) [.int .i64 5, .int .i64 4] := by simpa using Blk.new (w1) 3 [.int .i64 5, .int .i64 4]
   refine hK.out _ _ (by (try dsimp only); exact ⟨cell_below n5 bw8.drew, cell_below c0 bw8.drew, cell_below c1 bw8.drew, cell_below c2 bw8.drew, cell_below c3 bw8.drew, cell_below c4 bw8.drew, cell_below c5 bw8.drew, cell_below d0 bw8.drew, cell_below d1 bw8.drew, cell_below d2 bw8.drew, cell_below d3 bw8.drew, cell_below d4 bw8.drew, cell_below d5 bw8.drew⟩) ?_
   clear hK K hHeld
   intro hHeld
   try simp only [Act.put, tka, tk0, tkS]
   refine wpAnyH_ready (rs := [4]) (by kernel_rfl) (by simp) ?_
   refine AllReadyH.cons (o := ⟨some 54, _, _, _, _, _⟩) rfl (fun K hK => ?_) AllReadyH.nil
   go_simp
   have bw9 := bl_ bw8 (.cells #[.int .i64 5] 3)
   have k2_9 := Blk.alloc k2_8 (.cells #[.int .i64 5] 3)
   have k1_9 : Blk ((((w1).alloc (.cells #[.int .i64 5, .int .i64 4] 3))).alloc (.cells #[.int .i64 5] 3)) 3 (w1.heap.size + 1) [.int .i64 5] := by simpa using Blk.new (((w1).alloc (.cells #[.int .i64 5, .int .i64 4] 3))) 3 [.int .i64 5]
   refine hK.out _ _ (by (try dsimp only); exact ⟨cell_below n5 bw9.drew, cell_below c0 bw9.drew, cell_below c1 bw9.drew, cell_below c2 bw9.drew, cell_below c3 bw9.drew, cell_below c4 bw9.drew, cell_below c5 bw9.drew, cell_below d0 bw9.drew, cell_below d1 bw9.drew, cell_below d2 bw9.drew, cell_below d3 bw9.drew, cell_below d4 bw9.drew, cell_below d5 bw9.drew⟩) ?_
   clear hK K hHeld
   intro hHeld
   try simp only [Act.put, tka, tk0, tkS]
   refine wpAnyH_ready (rs := [5]) (by kernel_rfl) (by simp) ?_
   refine AllReadyH.cons (o := ⟨some 55, _, _, _, _, _⟩) rfl (fun K hK => ?_) AllReadyH.nil
   go_simp
   go_at_call 69
   have hcx := h0s u (HI.out u (by simp)) cores [5] (by simp) _ _ _ _ hcu HRU.out (HU.out.below bw9.drew) (f0o k1_9)
   rw [m0h] at hcx
   refine hcx.mono ?_
   clear hcx
   rintro e w10 ⟨rfl, hb⟩
   have bw10 := bt_ bw9.drew hb
   have k1_10 := Blk.below (f0o k1_9) hb
   have k2_10 := Blk.below (f0o k2_9) hb
   clear hb
   refine hK.out _ _ (by (try dsimp only); exact ⟨cell_below n5 bw10, cell_below c0 bw10, cell_below c1 bw10, cell_below c2 bw10, cell_below c3 bw10, cell_below c4 bw10, cell_below c5 bw10, cell_below d0 bw10, cell_below d1 bw10, cell_below d2 bw10, cell_below d3 bw10, cell_below d4 bw10, cell_below d5 bw10⟩) ?_
   clear hK K hHeld
   intro hHeld
   try simp only [Act.put, tka, tk0, tkS]
   refine tk1 6 56 rfl ?_
   simp only [Act.put, tka, tk0, tkS]
   refine wpAnyH_ready (rs := [12]) (by kernel_rfl) (by simp) ?_
   refine AllReadyH.cons (o := ⟨some 62, _, _, _, _, _⟩) rfl (fun K hK => ?_) AllReadyH.nil
   go_simp
   go_at_call 69
   have hcx := h0s t (HI.out t (by simp)) cores [5, 4] (by simp) _ _ _ _ hct HRT.out (HT.out.below bw10) k2_10
   rw [(l0d t _).1] at hcx
   refine hcx.mono ?_
   clear hcx
   rintro e w11 ⟨rfl, hb⟩
   have bw11 := bt_ bw10 hb
   have k1_11 := Blk.below k1_10 hb
   have k2_11 := Blk.below k2_10 hb
   clear hb
   refine hK.out _ _ (by (try dsimp only); exact ⟨cell_below n5 bw11, cell_below c0 bw11, cell_below c1 bw11, cell_below c2 bw11, cell_below c3 bw11, cell_below c4 bw11, cell_below c5 bw11, cell_below d0 bw11, cell_below d1 bw11, cell_below d2 bw11, cell_below d3 bw11, cell_below d4 bw11, cell_below d5 bw11⟩) ?_
   clear hK K hHeld
   intro hHeld
   try simp only [Act.put, tka, tk0, tkS]
   refine tk1 13 63 rfl ?_
   simp only [Act.put, tka, tk0, tkS]
   refine tk1 14 2 rfl ?_
   simp only [Act.put, tka, tk0, tkS]
   refine wpAnyH_done (by kernel_rfl) ?_ _
   go_wp2_with fail
   go_ret
   exact ⟨by rw [HA.out]; rfl, bt_ HB1.out bw11⟩
  exact AllReadyH.nil
 by_cases k5 : k = 5
 ·subst k5
  obtain rfl : ln = 2 := by have : f0j 5 = 2 := rfl; omega
  clear hwant hr1 hc1 hk7
  obtain ⟨u, t, rfl⟩ := z0c hlen
  have hcc := HLC.out
  simp only [b0y] at hcc
  have hcu : a0u u ≤ 1000 := by omega
  have hct : a0u t ≤ 1000 := by omega
  have HRU := h_ (HRA.out u (by simp))
  have HRT := h_ (HRA.out t (by simp))
  go_enter Tryz.func39, Tryz.ntmps39
  go_wp2_with fail
  refine (HHexB.out _).mono ?_
  rintro e w1 ⟨rfl, hbx⟩
  have HB1 := h_ (bt_ HB.out hbx)
  have n0 := cell_below n0 hbx
  have n5 := cell_below n5 hbx
  have hpart := (HR.out.below hbx).part (j := 0) (by simp)
  simp only [List.getElem_cons_zero, List.getElem_cons_succ, Nat.zero_mul, Nat.one_mul, Nat.add_zero] at hpart
  obtain ⟨g, off, j0, j1, j2, j3, j4, jp, jl, jc, rfl, c0, c1, c2, c3, c4, c5, hu⟩ := hpart
  have hpart := (HR.out.below hbx).part (j := 1) (by simp)
  simp only [List.getElem_cons_zero, List.getElem_cons_succ, Nat.zero_mul, Nat.one_mul, Nat.add_zero] at hpart
  obtain ⟨g2, off2, i0, i1, i2, i3, i4, ip, il, ic, hgo, d0, d1, d2, d3, d4, d5, ht⟩ := hpart
  injection hgo with hgo
  injection hgo with hg1 hg2
  subst hg1 hg2
  have hlu := d0o u (CT.At.fits _ _ hu)
  have hlt := d0o t (CT.At.fits _ _ ht)
  have hil := b0q 1 (a0z u, a0f u)
  have hjl := b0q 2 (a0z t, a0f t)
  simp only at hil hjl
  have HU := h_ hu
  have HT := h_ ht
  have HV2 := h_ (show R = c0e 1 (a0z u, a0f u) ++ [32, 92, 47, 32] ++ c0e 2 (a0z t, a0f t) from by rw [HV.out]; rfl)
  rw [e1i] at HV2 hil
  clear hu ht HV HR HRA
  obtain ⟨A1, hA1, hcat1⟩ := catx (P := Tryz.prog) (a0f u) [32, 92, 47, 32] (x := (ba (a0f u))) rfl (y := { data := #[32, 92, 47, 32] }) rfl (by simp; omega)
  obtain ⟨A2, hA2, hcat2⟩ := catx (P := Tryz.prog) A1 (c0e 2 (a0z t, a0f t)) (x := (ba A1)) rfl (y := (ba (c0e 2 (a0z t, a0f t)))) rfl (by rw [hA1]; simp; omega)
  have HA := h_ (show R = A2 by rw [HV2.out, hA2, hA1])
  clear hA1 hA2 HV2
  have bw0 := Below.refl w1.heap.size w1
  go_wp2_with fail
  refine wp_region_held_drew (S := (fun w' => w'.cell? ⟨w.heap.size, 5, none⟩ = some (.slice (some ⟨g, off, none⟩) 2 cap) ∧ w'.cell? ⟨g, off, none⟩ = some (.int .i64 j0) ∧ w'.cell? ⟨g, off + 1, none⟩ = some (.int .i64 j1) ∧ w'.cell? ⟨g, off + 2, none⟩ = some (.int .i64 j2) ∧ w'.cell? ⟨g, off + 3, none⟩ = some (.int .u64 j3) ∧ w'.cell? ⟨g, off + 4, none⟩ = some (.int .u64 j4) ∧ w'.cell? ⟨g, off + 5, none⟩ = some (.slice jp jl jc) ∧ w'.cell? ⟨g, off + 6, none⟩ = some (.int .i64 i0) ∧ w'.cell? ⟨g, off + 6 + 1, none⟩ = some (.int .i64 i1) ∧ w'.cell? ⟨g, off + 6 + 2, none⟩ = some (.int .i64 i2) ∧ w'.cell? ⟨g, off + 6 + 3, none⟩ = some (.int .u64 i3) ∧ w'.cell? ⟨g, off + 6 + 4, none⟩ = some (.int .u64 i4) ∧ w'.cell? ⟨g, off + 6 + 5, none⟩ = some (.slice ip il ic))) (by kernel_rfl) (by (try dsimp only); exact ⟨cell_below n5 bw0.drew, cell_below c0 bw0.drew, cell_below c1 bw0.drew, cell_below c2 bw0.drew, cell_below c3 bw0.drew, cell_below c4 bw0.drew, cell_below c5 bw0.drew, cell_below d0 bw0.drew, cell_below d1 bw0.drew, cell_below d2 bw0.drew, cell_below d3 bw0.drew, cell_below d4 bw0.drew, cell_below d5 bw0.drew⟩) (fun hHeld => ?_)
  refine tk1 0 66 rfl ?_
  simp only [Act.put, tka, tk0, tkS]
  refine tk1 1 67 rfl ?_
  simp only [Act.put, tka, tk0, tkS]
  refine tk1 2 68 rfl ?_
  simp only [Act.put, tka, tk0, tkS]
  refine tk1 3 69 rfl ?_
  simp only [Act.put, tka, tk0, tkS]
  refine tk1 6 72 rfl ?_
  simp only [Act.put, tka, tk0, tkS]
  refine tk1 7 73 rfl ?_
  simp only [Act.put, tka, tk0, tkS]
  refine tk1 8 74 rfl ?_
  simp only [Act.put, tka, tk0, tkS]
  refine tk1 9 75 rfl ?_
  simp only [Act.put, tka, tk0, tkS]
  refine wpAnyH_ready (rs := [4, 10]) (by kernel_rfl) (by simp) ?_
  refine AllReadyH.cons (o := ⟨some 70, _, _, _, _, _⟩) rfl (fun K hK => ?_) ?_
  ·go_simp
   go_at_call 39
   have hcx := HI.out u (by simp) cores _ _ _ hcu HRU.out (HU.out.below bw0.drew)
   refine hcx.mono ?_
   clear hcx
   rintro e w12 ⟨rfl, hb⟩
   have bw12 := bt_ bw0.drew hb
   clear hb
   refine hK.out _ _ (by (try dsimp only); exact ⟨cell_below n5 bw12, cell_below c0 bw12, cell_below c1 bw12, cell_below c2 bw12, cell_below c3 bw12, cell_below c4 bw12, cell_below c5 bw12, cell_below d0 bw12, cell_below d1 bw12, cell_below d2 bw12, cell_below d3 bw12, cell_below d4 bw12, cell_below d5 bw12⟩) ?_
   clear hK K hHeld
   intro hHeld
   try simp only [Act.put, tka, tk0, tkS]
   refine tk1 5 71 rfl ?_
   simp only [Act.put, tka, tk0, tkS]
   refine wpAnyH_ready (rs := [10]) (by kernel_rfl) (by simp) ?_
   refine AllReadyH.cons (o := ⟨some 76, _, _, _, _, _⟩) rfl (fun K hK => ?_) AllReadyH.nil
   go_simp
   have bw13 := bl_ bw12 (.cells #[.int .i64 5] 3)
   have k2_13 : Blk ((w12).alloc (.cells #[.int .i64 5] 3)) 3 (w12.heap.size) [.int .i64 5] := by simpa using Blk.new (w12) 3 [.int .i64 5]
   refine hK.out _ _ (by (try dsimp only); exact ⟨cell_below n5 bw13, cell_below c0 bw13, cell_below c1 bw13, cell_below c2 bw13, cell_below c3 bw13, cell_below c4 bw13, cell_below c5 bw13, cell_below d0 bw13, cell_below d1 bw13, cell_below d2 bw13, cell_below d3 bw13, cell_below d4 bw13, cell_below d5 bw13⟩) ?_
   clear hK K hHeld
   intro hHeld
   try simp only [Act.put, tka, tk0, tkS]
   refine wpAnyH_ready (rs := [11]) (by kernel_rfl) (by simp) ?_
   refine AllReadyH.cons (o := ⟨some 77, _, _, _, _, _⟩) rfl (fun K hK => ?_) AllReadyH.nil
   go_simp
   go_at_call 69
   have hcx := h0s t (HI.out t (by simp)) cores [5] (by simp) _ _ _ _ hct HRT.out (HT.out.below bw13) k2_13
   rw [m0h] at hcx
   refine hcx.mono ?_
   clear hcx
   rintro e w14 ⟨rfl, hb⟩
   have bw14 := bt_ bw13 hb
   have k2_14 := Blk.below k2_13 hb
   clear hb
   refine hK.out _ _ (by (try dsimp only); exact ⟨cell_below n5 bw14, cell_below c0 bw14, cell_below c1 bw14, cell_below c2 bw14, cell_below c3 bw14, cell_below c4 bw14, cell_below c5 bw14, cell_below d0 bw14, cell_below d1 bw14, cell_below d2 bw14, cell_below d3 bw14, cell_below d4 bw14, cell_below d5 bw14⟩) ?_
   clear hK K hHeld
   intro hHeld
   try simp only [Act.put, tka, tk0, tkS]
   refine tk1 12 78 rfl ?_
   simp only [Act.put, tka, tk0, tkS]
   refine tk1 13 2 rfl ?_
   simp only [Act.put, tka, tk0, tkS]
   refine wpAnyH_done (by kernel_rfl) ?_ _
   go_wp2_with fail
   go_ret
   exact ⟨by rw [HA.out]; rfl, bt_ HB1.out bw14⟩
  refine AllReadyH.cons (o := ⟨some 76, _, _, _, _, _⟩) rfl (fun K hK => ?_) ?_
  ·go_simp
   have bw15 := bl_ bw0 (.cells #[.int .i64 5] 3)
   have k2_15 : Blk ((w1).alloc (.cells #[.int .i64 5] 3)) 3 (w1.heap.size) [.int .i64 5] := by simpa using Blk.new (w1) 3 [.int .i64 5]
   refine hK.out _ _ (by (try dsimp only); exact ⟨cell_below n5 bw15.drew, cell_below c0 bw15.drew, cell_below c1 bw15.drew, cell_below c2 bw15.drew, cell_below c3 bw15.drew, cell_below c4 bw15.drew, cell_below c5 bw15.drew, cell_below d0 bw15.drew, cell_below d1 bw15.drew, cell_below d2 bw15.drew, cell_below d3 bw15.drew, cell_below d4 bw15.drew, cell_below d5 bw15.drew⟩) ?_
   clear hK K hHeld
   intro hHeld
   try simp only [Act.put, tka, tk0, tkS]
   refine wpAnyH_ready (rs := [4]) (by kernel_rfl) (by simp) ?_
   refine AllReadyH.cons (o := ⟨some 70, _, _, _, _, _⟩) rfl (fun K hK => ?_) AllReadyH.nil
   go_simp
   go_at_call 39
   have hcx := HI.out u (by simp) cores _ _ _ hcu HRU.out (HU.out.below bw15.drew)
   refine hcx.mono ?_
   clear hcx
   rintro e w16 ⟨rfl, hb⟩
   have bw16 := bt_ bw15.drew hb
   have k2_16 := Blk.below (f0o k2_15) hb
   clear hb
   refine hK.out _ _ (by (try dsimp only); exact ⟨cell_below n5 bw16, cell_below c0 bw16, cell_below c1 bw16, cell_below c2 bw16, cell_below c3 bw16, cell_below c4 bw16, cell_below c5 bw16, cell_below d0 bw16, cell_below d1 bw16, cell_below d2 bw16, cell_below d3 bw16, cell_below d4 bw16, cell_below d5 bw16⟩) ?_
   clear hK K hHeld
   intro hHeld
   try simp only [Act.put, tka, tk0, tkS]
   refine tk1 5 71 rfl ?_
   simp only [Act.put, tka, tk0, tkS]
   refine wpAnyH_ready (rs := [11]) (by kernel_rfl) (by simp) ?_
   refine AllReadyH.cons (o := ⟨some 77, _, _, _, _, _⟩) rfl (fun K hK => ?_) AllReadyH.nil
   go_simp
   go_at_call 69
   have hcx := h0s t (HI.out t (by simp)) cores [5] (by simp) _ _ _ _ hct HRT.out (HT.out.below bw16) k2_16
   rw [m0h] at hcx
   refine hcx.mono ?_
   clear hcx
   rintro e w17 ⟨rfl, hb⟩
   have bw17 := bt_ bw16 hb
   have k2_17 := Blk.below k2_16 hb
   clear hb
   refine hK.out _ _ (by (try dsimp only); exact ⟨cell_below n5 bw17, cell_below c0 bw17, cell_below c1 bw17, cell_below c2 bw17, cell_below c3 bw17, cell_below c4 bw17, cell_below c5 bw17, cell_below d0 bw17, cell_below d1 bw17, cell_below d2 bw17, cell_below d3 bw17, cell_below d4 bw17, cell_below d5 bw17⟩) ?_
   clear hK K hHeld
   intro hHeld
   try simp only [Act.put, tka, tk0, tkS]
   refine tk1 12 78 rfl ?_
   simp only [Act.put, tka, tk0, tkS]
   refine tk1 13 2 rfl ?_
   simp only [Act.put, tka, tk0, tkS]
   refine wpAnyH_done (by kernel_rfl) ?_ _
   go_wp2_with fail
   go_ret
   exact ⟨by rw [HA.out]; rfl, bt_ HB1.out bw17⟩
  exact AllReadyH.nil
 exact absurd hk7 (by omega)
end
end Go.Proofs.YtmnojnopejhebaaGreat
