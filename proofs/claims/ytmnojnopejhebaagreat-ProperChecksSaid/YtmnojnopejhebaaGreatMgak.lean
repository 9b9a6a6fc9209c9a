/- The text of a condition. -/
import Derived.Test.YtmnojnopejhebaaGreatMgaa
import Derived.Test.YtmnojnopejhebaaGreatMgab
import Derived.Test.YtmnojnopejhebaaGreatMgad
import Derived.Test.YtmnojnopejhebaaGreatMgah
import Derived.Test.YtmnojnopejhebaaGreatMgai
import Derived.Test.YtmnojnopejhebaaGreatRows
import Derived.Deep.RegionHeld
namespace Go.Proofs.YtmnojnopejhebaaGreat
set_option linter.unusedVariables false
set_option linter.unusedSimpArgs false
set_option maxRecDepth 100000
set_option maxHeartbeats 25600000
section
open Go.RowKit
def h0e (l : List UInt8) : List Value := l.map (fun c => Value.int .u8 (c.toNat : Int))
theorem p0z (l : List UInt8) (c : UInt8) : h0e (l ++ [c]) = h0e l ++ [Value.int .u8 (c.toNat : Int)] := by simp [h0e]
theorem h0m (l : List UInt8) : (h0e l).length = l.length := by simp [h0e]
theorem d1y (l : List UInt8) : ∀ s : ByteArray, (l.map (fun c => (c.toNat : Int))).foldl (fun r n => r.push (UInt8.ofNat n.toNat)) s = ba (s.data.toList ++ l) := by
 induction l with
 | nil => intro s; rw [List.append_nil]; rfl
 | cons c l ih =>
  intro s
  rw [List.map_cons, List.foldl_cons, ih]
  congr 1
  rw [Int.toNat_natCast, UInt8.ofNat_toNat, ByteArray.data_push, Array.toList_push]
  simp
theorem f1x {P : Program} {w : World} {src dst e : TypeId} (hs : P.underlying src = some (.slice e)) (he : P.underlying e = some (.int .u8)) (hd : P.underlying dst = some .string)
  {v : Value} {n : Nat} {l : List UInt8} (hr : v0o w v n (h0e l)) : (convert src dst v).run P w = .ok (.string (ba l)) w := by
 obtain ⟨hlen, ⟨rfl, rfl⟩ | ⟨g, off, cap, rfl, _, _, hc⟩⟩ := hr
 ·rw [h0m] at hlen
  have hl : l = [] := List.eq_nil_of_length_eq_zero (by omega)
  subst hl
  rw [run_convert_bytes_string w src dst e none 0 0 hs he hd]
  rfl
 ·rw [h0m] at hlen
  rw [run_convert_bytes_string w src dst e _ n cap hs he hd]
  have hload : (loadCells ⟨g, off, none⟩ n).run P w = .ok ((l.map (fun c => (c.toNat : Int))).map (Value.int .u8)).toArray w := by
   have := run_loadCells_list (P := P) (w := w) ⟨g, off, none⟩ (h0e l) (fun j u hj => by
    have hjl : j < (h0e l).length := by
     rcases Nat.lt_or_ge j (h0e l).length with h | h
     ·exact h
     ·rw [List.getElem?_eq_none h] at hj; cases hj
    rw [h0m] at hjl
    rw [← hj, ← hc j (by omega), addr_add])
   rw [h0m, hlen] at this
   rw [this, h0e, List.map_map]; rfl
  rw [run_bytesToString w _ n cap _ hload, d1y]
  rfl
end
section
open Go.RowKit
theorem n1x : El Tryz.prog 71 5 (.int .u8 0) 1 1 := ⟨Tryz.underlying71, by kernel_rfl⟩
theorem and15 (y : Nat) (hy : y < 18446744073709551616) : bits .and .u64 (y : Int) 15 = ((y % 16 : Nat) : Int) := by
 rw [show (15 : Int) = ((15 : Nat) : Int) from rfl, bits_and_u64_nat _ _ hy (by decide), show (15 : Nat) = 2 ^ 4 - 1 from rfl, y0d]
theorem n1p (bs : List UInt8) (w : World) : y0c (w.alloc (.cells #[.int .u8 48, .int .u8 120] 5 (2, 3))) w.heap.size 5 (.slice (some ⟨w.heap.size, 0, none⟩) 2 2) (2 + (bs.drop bs.length).length) (h0e ([48, 120] ++ (bs.drop bs.length).reverse)) := by
 rw [List.drop_length]
 refine .inr ⟨w.heap.size, 0, rfl, by decide, rfl, fun j hj => ?_⟩
 have e1 : (w.alloc (.cells #[.int .u8 48, .int .u8 120] 5 (2, 3))).heap[w.heap.size]? = some (.cells #[.int .u8 48, .int .u8 120] 5 (2, 3)) := by
  show (w.heap.push _)[w.heap.size]? = _; simp
 have hj2 : j < 2 := hj
 rw [Nat.zero_add, cell_of_row _ _ j _ _ _ e1]
 match j, hj2 with
 | 0, _ => rfl
 | 1, _ => rfl
theorem n1q (x : Int) (w : World) (hx : 0 ≤ x ∧ x < 18446744073709551616) :
  Calls Tryz.prog 28 #[.int .u64 x] w fun e w' => e = .returned (.string (ba ([48, 120] ++ txt 16 x.toNat))) ∧ Below w.heap.size w w' := by
 obtain ⟨n, rfl⟩ := Int.eq_ofNat_of_zero_le hx.1
 rw [Int.toNat_natCast]
 have hn : n < 18446744073709551616 := by omega
 clear hx
 go_enter Tryz.func28, Tryz.ntmps28
 go_wp2_with fail
 go_loopw [3, 0] (fun v i wr => ∃ (y : Nat) (acc : List UInt8), y ≤ n ∧ i = .int .u64 y ∧ i0e n y acc ∧ wr.ownsRow w.heap.size 5 1 v acc.length (h0e acc) ∧ Below w.heap.size w wr) (fun _ i _ => (intOf i).toNat)
 case atStart => exact ⟨n, [], Nat.le_refl _, rfl, i0e.start n, World.ownsRow_nil _ _ _ _, Below.refl _ _⟩
 case round =>
  obtain ⟨y, acc, hy, rfl, hi, hown, hnx⟩ := hrel
  have hb := hnx.size
  have hl := hi.len hn
  have e1 := and15 y (by omega)
  have hr : y % 16 < 16 := Nat.mod_lt _ (by decide)
  have HI := h_ hi
  clear hi
  have HB := h_ (show ∀ (w1 : World) (v' : Value), w1.ownsRow w.heap.size 5 1 v' (acc.length + 1) (h0e acc ++ [.int .u8 ((ByteArray.mk #[48, 49, 50, 51, 52, 53, 54, 55, 56, 57, 97, 98, 99, 100, 101, 102])[y % 16]'hr).toNat]) →
    w1.ownsRow w.heap.size 5 1 v' (acc ++ [dg (y % 16)]).length (h0e (acc ++ [dg (y % 16)])) from fun w1 v' h => by
   rw [p0z, List.length_append]; rw [dg_at] at h; exact h)
  by_cases hlast : y < 16
  ·have HL := h_ (HI.out.last hlast)
   have t1 : ((y : Int) / 16 == 0) = true := beq_iff_eq.2 (by omega)
   go_wp2_with (at_builtin; refine app1 rfl _ _ 71 rfl w.heap.size 5 (.int .u8 0) 1 n1x rfl _ _ _ rfl hown _ rfl rfl ?c1 ?c2 ?c3 ?_)
   case c1 => unfold maxLen; omega
   case c2 => omega
   case c3 => exact hb
   intro v1 w1 hown' hg hb1
   have hown2 := HB.out w1 v1 hown'
   have hnx1 := hnx.trans hb1
   clear hown' hown hg hb1 hnx hb
   generalize hacc : acc ++ [dg (y % 16)] = bs at *
   have hl2 : bs.length ≤ 64 := by rw [← hacc]; simp; omega
   have hpos : 0 < bs.length := by rw [← hacc]; simp
   clear hacc HB HI hl
   have hcs := fun (w : World) (C : Array Value) (n c : Nat) => Lib.run_convert_bytes_const (P := Tryz.prog) w 71 5 C n c Tryz.underlying71 Tryz.underlying5
   obtain ⟨g, cap, rfl, hg1, hg2, hg3, hg4, hc, hf⟩ := j1a hown2 hpos
   unfold maxLen at hg4
   have HC := h_ hc
   clear hown2 hf hc
   go_wp2_with fail
   go_loopw [5, 4] (fun i v wr => ∃ k : Nat, k ≤ bs.length ∧ i = .int .i64 ((k : Int) - 1) ∧ y0c wr w1.heap.size 5 v (2 + (bs.drop k).length) (h0e ([48, 120] ++ (bs.drop k).reverse)) ∧ Below w1.heap.size w1 wr) (fun i _ _ => (intOf i + 1).toNat)
   case atStart => exact ⟨bs.length, Nat.le_refl _, by go_num, n1p bs w1, bl_ (Below.refl _ _) _⟩
   case round =>
    obtain ⟨k, hk, rfl, hown, hnb⟩ := hrel
    have hbz := hnb.size
    cases k with
    | zero =>
     have hcv := f1x (P := Tryz.prog) (dst := 9) Tryz.underlying71 Tryz.underlying5 Tryz.underlying9 (v0n hown)
     clear hown
     go_wp2
     go_ret
     exact ⟨o0y (congrArg Value.string (by rw [HL.out])), hnx1.trans (hnb.mono hnx1.size)⟩
    | succ m =>
     clear hcs
     have hcell : wr.cell? ⟨g, m, none⟩ = some (.int .u8 (bs[m]'(by omega)).toNat) := by
      rw [hnb.cell (by exact hg2), HC.out m (by omega)]
      simp [h0e, List.getElem?_eq_getElem (show m < bs.length by omega)]
     have HD := h_ (k1g bs m (by omega))
     have hlm : (bs.drop (m + 1)).length ≤ 64 := by rw [List.length_drop]; omega
     have HLM := h_ (show (bs.drop m).length = (bs.drop (m + 1)).length + 1 by rw [List.length_drop, List.length_drop]; omega)
     rw [show ((m + 1 : Nat) : Int) - 1 = m from by omega]
     generalize hbm : bs[m]'(by omega) = c at *
     clear hbm
     generalize hds : (bs.drop (m + 1)) = ds at *
     clear hds
     go_wp2_with (at_builtin; refine app1w rfl _ _ 71 rfl w1.heap.size 5 (.int .u8 0) 1 n1x rfl _ _ _ rfl hown _ rfl rfl ?c1 ?c2 ?c3 ?_)
     case c1 => unfold maxLen; omega
     case c2 => omega
     case c3 => exact hbz
     intro v2 w2 hown3 hb1
     clear hown
     go_wp2
     go_roundw
     case rel =>
      refine ⟨m, by omega, rfl, ?_, hnb.trans hb1⟩
      rw [HD.out, HLM.out, ← List.append_assoc, p0z]
      exact .inl hown3
     case measure => simp [intOf]
  ·have HL := h_ (HI.out.next (by omega))
   have t1 : ((y : Int) / 16 == 0) = false := beq_eq_false_iff_ne.2 (by omega)
   go_wp2_with (at_builtin; refine app1 rfl _ _ 71 rfl w.heap.size 5 (.int .u8 0) 1 n1x rfl _ _ _ rfl hown _ rfl rfl ?c1 ?c2 ?c3 ?_)
   case c1 => unfold maxLen; omega
   case c2 => omega
   case c3 => exact hb
   intro v1 w1 hown' hg hb1
   have hown2 := HB.out w1 v1 hown'
   clear hown' hown hg
   go_wp2
   go_roundw
   case rel => exact ⟨y / 16, acc ++ [dg (y % 16)], by omega, by go_num, HL.out, hown2, hnx.trans hb1⟩
   case measure => simp [intOf]; omega
end
section
open Go.RowKit
theorem catx {P : Program} (a b : List UInt8) {x y : ByteArray} (hx : ba a = x) (hy : ba b = y) (hl : a.length + b.length ≤ 1000000) : ∃ c, c = a ++ b ∧ ∀ w : World, (Op.stringOp .add x y).run P w = .ok (.string (ba c)) w := by
 subst hx hy; exact ⟨_, rfl, fun w => y0b a b _ rfl hl w⟩
end
section
open Go.RowKit
theorem f1c (w : World) (S : Nat → Prop) (t : CT) (cs : List Value) (h : CT.At w S t cs) :
  Calls Tryz.prog 108 #[.agg cs.toArray] w fun e w' => e = .returned (.int .i64 (c0f t : Nat)) ∧ Below w.heap.size w w' := by
 obtain ⟨k, c, r, a, v, args⟩ := t
 obtain ⟨p, cap, rfl, _⟩ := h.own
 have HB := h_ (show Below w.heap.size w (w.alloc (.cells #[.int .i64 k, .int .i64 c, .int .i64 r, .int .u64 (a : Nat), .int .u64 (v : Nat), .slice p args.length cap] 29)) from bl_ (Below.refl _ _) _)
 have HV := h_ (show c0f (.mk k c r a v args) = if k = 5 then 1 else if k = 4 then 2 else 3 from rfl)
 clear h
 by_cases h5 : k = 5
 ·subst h5
  go_enter Tryz.func108, Tryz.ntmps108
  go_wp2_with fail
  go_ret
  exact ⟨by rw [HV.out]; rfl, HB.out⟩
 ·have hb5 : (k == 5) = false := by rw [beq_eq_false_iff_ne]; exact h5
  by_cases h4 : k = 4
  ·subst h4
   go_enter Tryz.func108, Tryz.ntmps108
   go_wp2_with fail
   go_ret
   exact ⟨by rw [HV.out]; rfl, HB.out⟩
  ·have hb4 : (k == 4) = false := by rw [beq_eq_false_iff_ne]; exact h4
   rw [if_neg h5, if_neg h4] at HV
   go_enter Tryz.func108, Tryz.ntmps108
   go_wp2_with fail
   go_ret
   exact ⟨by rw [HV.out]; rfl, HB.out⟩
theorem p0j (v : Nat) (w : World) (hv : v < 18446744073709551616) : Calls Tryz.prog 28 #[.int .u64 (v : Nat)] w fun e w' => e = .returned (.string (ba (hexL v))) ∧ Below w.heap.size w w' := by
 have h := n1q (v : Nat) w ⟨by omega, by omega⟩
 rw [Int.toNat_natCast] at h
 exact h
def w0x (t : CT) : Prop := ∀ (w : World) (S : Nat → Prop) (cs : List Value), a0k t ≤ 1000 → CT.At w S t cs →
  Calls Tryz.prog 30 #[.agg cs.toArray] w fun e w' => e = .returned (.string (ba (a0m t))) ∧ Below w.heap.size w w'
theorem k0o (t : CT) (hp : w0x t) (least : Nat) (hl : least ≤ 3) (w : World) (S : Nat → Prop) (cs : List Value) (hc : a0k t ≤ 1000) (h : CT.At w S t cs) :
  Calls Tryz.prog 63 #[.agg cs.toArray, .int .i64 (least : Nat)] w fun e w' => e = .returned (.string (ba (e0o least (c0f t, a0m t)))) ∧ Below w.heap.size w w' := by
 have hln := h0q t (CT.At.fits t cs h)
 have HL := h_ (fun w2 S2 (h2 : CT.At w2 S2 t cs) => f1c w2 S2 t cs h2)
 have HP := h_ (fun w2 S2 (h2 : CT.At w2 S2 t cs) => hp w2 S2 cs hc h2)
 have H0 := h_ h
 obtain ⟨q, q1, q2, q3, q4, q5⟩ := t
 obtain ⟨p, cap, rfl, _⟩ := h.own
 have HB := h_ (show Below w.heap.size w (w.alloc (.cells #[.int .i64 q, .int .i64 q1, .int .i64 q2, .int .u64 (q3 : Nat), .int .u64 (q4 : Nat), .slice p q5.length cap] 29)) from bl_ (Below.refl _ _) _)
 have HN := h_ (k0j w #[.int .i64 q, .int .i64 q1, .int .i64 q2, .int .u64 (q3 : Nat), .int .u64 (q4 : Nat), .slice p q5.length cap])
 have HV := h_ (show e0o least (c0f (.mk q q1 q2 q3 q4 q5), a0m (.mk q q1 q2 q3 q4 q5)) = if c0f (.mk q q1 q2 q3 q4 q5) < least then [40] ++ a0m (.mk q q1 q2 q3 q4 q5) ++ [41] else a0m (.mk q q1 q2 q3 q4 q5) from rfl)
 have H1 := h_ (H0.out.below HB.out)
 clear h H0
 generalize a0m (.mk q q1 q2 q3 q4 q5) = T at *
 generalize c0f (.mk q q1 q2 q3 q4 q5) = V at *
 obtain ⟨A1, hA1⟩ : ∃ A : List UInt8, A = [40] ++ T := ⟨_, rfl⟩
 obtain ⟨A2, hA2⟩ : ∃ A : List UInt8, A = A1 ++ [41] := ⟨_, rfl⟩
 have hcat1 : ∀ wx : World, (Op.stringOp .add { data := #[40] } (ba T)).run Tryz.prog wx = .ok (.string (ba A1)) wx := y0b (P := Tryz.prog) [40] T A1 hA1 (by simp; omega)
 have hcat2 : ∀ wx : World, (Op.stringOp .add (ba A1) { data := #[41] }).run Tryz.prog wx = .ok (.string (ba A2)) wx := y0b (P := Tryz.prog) A1 [41] A2 hA2 (by rw [hA1]; simp; omega)
 have HA := h_ (show A2 = [40] ++ T ++ [41] by rw [hA2, hA1])
 clear hA1 hA2
 have HC := h_ (HL.out _ _ H1.out)
 go_enter Tryz.func63, Tryz.ntmps63
 go_wp2_with fail
 refine (HC.out).mono ?_
 rintro e w2 ⟨rfl, hb⟩
 have HB2 := h_ (bt_ HB.out hb)
 have HC2 := h_ (HP.out _ _ (H1.out.below hb))
 obtain ⟨n0, n1, n2, n3, n4, n5⟩ := b0z (HN.out.below hb)
 clear hb HC
 by_cases hlt : V < least
 ·have hli : (V : Int) < least := by omega
  have HVV := h_ (HV.out.trans (if_pos hlt))
  go_wp2_with fail
  refine (HC2.out).mono ?_
  rintro e w3 ⟨rfl, hb⟩
  have HB3 := h_ (bt_ HB2.out hb)
  clear hb
  go_wp2_with fail
  go_ret
  exact ⟨by rw [HVV.out, ← HA.out]; rfl, HB3.out⟩
 ·have hli : ¬ (V : Int) < least := by omega
  have HVV := h_ (HV.out.trans (if_neg hlt))
  go_wp2_with fail
  refine (HC2.out).mono ?_
  rintro e w3 ⟨rfl, hb⟩
  have HB3 := h_ (bt_ HB2.out hb)
  clear hb
  go_wp2_with fail
  go_ret
  exact ⟨by rw [HVV.out]; rfl, HB3.out⟩
theorem e1a : ∀ (t : CT), w0x t := by
 intro t
 refine CT.ind (P := w0x) ?_ t
 intro k c r a v args IH w S cs hc ht
 have hln := h0q _ (CT.At.fits _ _ ht)
 obtain ⟨p, cap, rfl, h1, h2, h3, h4, h5⟩ := ht.own
 obtain ⟨hv, hk, hcI, hrI⟩ := h4
 have HI := h_ IH
 generalize hlen : args.length = ln at *
 have HN := h_ (k0j w #[.int .i64 k, .int .i64 c, .int .i64 r, .int .u64 (a : Nat), .int .u64 (v : Nat), .slice p ln cap])
 have HB := h_ (show Below w.heap.size w (w.alloc (.cells #[.int .i64 k, .int .i64 c, .int .i64 r, .int .u64 (a : Nat), .int .u64 (v : Nat), .slice p ln cap] 29)) from bl_ (Below.refl _ _) _)
 have HR := h_ (h5.below HB.out)
 have HV := h_ (show a0m (.mk k c r a v args) = v0v k c r a v (f0g args) from rfl)
 have hcap : cap ≤ 9223372036854775807 := by unfold maxLen at h2; omega
 have HLC := h_ (show a0k (.mk k c r a v args) = 1 + b0i args from rfl)
 clear ht IH h5
 generalize a0m (.mk k c r a v args) = R at *
 have b1 := d0m c hcI
 have b2 := l0t r hrI
 have b3 := o0d a h3
 have b4 := o0d v hv
 obtain ⟨n0, n1, n2, n3, n4, n5⟩ := b0z HN.out
 have HHex := h_ (fun w1 => p0j v w1 hv)
 have HHexA := h_ (fun w1 => p0j a w1 h3)
 have HInt := h_ (fun w1 => l0l c w1 hcI)
 have HReg := h_ (fun w1 => h0o r w1 hrI)
 have HV := h_ (HV.out.trans (show _ = n0r k (intL c) (regL r) (hexL a) (hexL v) (f0g args) from rfl))
 generalize hexL v = X4 at *
 generalize hexL a = X3 at *
 generalize intL c = X1 at *
 generalize regL r = X2 at *
 by_cases k1 : k = 1
 ·subst k1
  obtain ⟨A1, hA1, hcat1⟩ := catx (P := Tryz.prog) X1 [58] (x := (ba X1)) rfl (y := { data := #[58] }) rfl (by simp; omega)
  obtain ⟨A2, hA2, hcat2⟩ := catx (P := Tryz.prog) A1 X2 (x := (ba A1)) rfl (y := (ba X2)) rfl (by rw [hA1]; simp; omega)
  obtain ⟨A3, hA3, hcat3⟩ := catx (P := Tryz.prog) A2 [61] (x := (ba A2)) rfl (y := { data := #[61] }) rfl (by rw [hA2, hA1]; simp; omega)
  obtain ⟨A4, hA4, hcat4⟩ := catx (P := Tryz.prog) A3 X4 (x := (ba A3)) rfl (y := (ba X4)) rfl (by rw [hA3, hA2, hA1]; simp; omega)
  have HA := h_ (show A4 = X1 ++ [58] ++ X2 ++ [61] ++ X4 by rw [hA4, hA3, hA2, hA1])
  clear hA1 hA2 hA3 hA4
  go_enter Tryz.func30, Tryz.ntmps30
  go_wp2_with fail
  refine wp_region_held_drew (S := (fun w' => w'.cell? ⟨w.heap.size, 1, none⟩ = some (.int .i64 c) ∧ w'.cell? ⟨w.heap.size, 2, none⟩ = some (.int .i64 r) ∧ w'.cell? ⟨w.heap.size, 3, none⟩ = some (.int .u64 (a : Nat)) ∧ w'.cell? ⟨w.heap.size, 4, none⟩ = some (.int .u64 (v : Nat)))) (by kernel_rfl) (by (try dsimp only); exact ⟨n1, n2, n3, n4⟩) (fun hHeld => ?_)
  refine tk1 0 7 rfl ?_
  simp only [Act.put, tka, tk0, tkS]
  refine tk1 1 8 rfl ?_
  simp only [Act.put, tka, tk0, tkS]
  refine tk1 4 11 rfl ?_
  simp only [Act.put, tka, tk0, tkS]
  refine tk1 5 12 rfl ?_
  simp only [Act.put, tka, tk0, tkS]
  refine tk1 9 16 rfl ?_
  simp only [Act.put, tka, tk0, tkS]
  refine tk1 10 17 rfl ?_
  simp only [Act.put, tka, tk0, tkS]
  refine wpAnyH_ready (rs := [2]) (by kernel_rfl) (by simp) ?_
  refine AllReadyH.cons (o := ⟨some 9, _, _, _, _, _⟩) rfl (fun K hK => ?_) AllReadyH.nil
  go_simp
  go_at_call 60; refine (HInt.out _).mono ?_; rintro e w3 ⟨rfl, m3, hw3⟩; have HN3 := h_ (show Blk w3 29 w.heap.size _ from by rw [hw3]; exact Blk.dn (s0j HN.out) m3); have HB3 := h_ (show Below w.heap.size w w3 from by rw [hw3]; exact bd_ (HB.out.drew) m3); clear hw3; obtain ⟨n0, n1, n2, n3, n4, n5⟩ := b0z HN3.out
  refine hK.out _ _ (by (try dsimp only); exact ⟨n1, n2, n3, n4⟩) ?_
  clear hK K hHeld
  intro hHeld
  try simp only [Act.put, tka, tk0, tkS]
  refine tk1 3 10 rfl ?_
  simp only [Act.put, tka, tk0, tkS]
  refine wpAnyH_ready (rs := [6]) (by kernel_rfl) (by simp) ?_
  refine AllReadyH.cons (o := ⟨some 13, _, _, _, _, _⟩) rfl (fun K hK => ?_) AllReadyH.nil
  go_simp
  go_at_call 61; refine (HReg.out _).mono ?_; rintro e w4 ⟨rfl, m4, hw4⟩; have HN4 := h_ (show Blk w4 29 w.heap.size _ from by rw [hw4]; exact Blk.dn HN3.out m4); have HB4 := h_ (show Below w.heap.size w w4 from by rw [hw4]; exact bd_ HB3.out m4); clear hw4; obtain ⟨n0, n1, n2, n3, n4, n5⟩ := b0z HN4.out
  refine hK.out _ _ (by (try dsimp only); exact ⟨n1, n2, n3, n4⟩) ?_
  clear hK K hHeld
  intro hHeld
  try simp only [Act.put, tka, tk0, tkS]
  refine tk1 7 14 rfl ?_
  simp only [Act.put, tka, tk0, tkS]
  refine tk1 8 15 rfl ?_
  simp only [Act.put, tka, tk0, tkS]
  refine wpAnyH_ready (rs := [11]) (by kernel_rfl) (by simp) ?_
  refine AllReadyH.cons (o := ⟨some 18, _, _, _, _, _⟩) rfl (fun K hK => ?_) AllReadyH.nil
  go_simp
  go_at_call 28; refine (HHex.out _).mono ?_; rintro e w5 ⟨rfl, hb⟩; have HN5 := h_ (show Blk w5 29 w.heap.size _ from Blk.below HN4.out hb); have HB5 := h_ (bt_ HB4.out hb); clear hb; obtain ⟨n0, n1, n2, n3, n4, n5⟩ := b0z HN5.out
  refine hK.out _ _ (by (try dsimp only); exact ⟨n1, n2, n3, n4⟩) ?_
  clear hK K hHeld
  intro hHeld
  try simp only [Act.put, tka, tk0, tkS]
  refine tk1 12 19 rfl ?_
  simp only [Act.put, tka, tk0, tkS]
  refine tk1 13 2 rfl ?_
  simp only [Act.put, tka, tk0, tkS]
  refine wpAnyH_done (by kernel_rfl) ?_ _
  go_wp2_with fail
  go_ret
  exact ⟨by rw [HV.out]; unfold n0r; rw [if_pos rfl, ← HA.out]; rfl, HB5.out⟩
 have e1 : (k == 1) = false := by rw [beq_eq_false_iff_ne]; exact k1
 by_cases k2 : k = 2
 ·subst k2
  obtain ⟨A1, hA1, hcat1⟩ := catx (P := Tryz.prog) [91] X3 (x := { data := #[91] }) rfl (y := (ba X3)) rfl (by simp; omega)
  obtain ⟨A2, hA2, hcat2⟩ := catx (P := Tryz.prog) A1 [93, 61] (x := (ba A1)) rfl (y := { data := #[93, 61] }) rfl (by rw [hA1]; simp; omega)
  obtain ⟨A3, hA3, hcat3⟩ := catx (P := Tryz.prog) A2 X4 (x := (ba A2)) rfl (y := (ba X4)) rfl (by rw [hA2, hA1]; simp; omega)
  have HA := h_ (show A3 = [91] ++ X3 ++ [93, 61] ++ X4 by rw [hA3, hA2, hA1])
  clear hA1 hA2 hA3
  go_enter Tryz.func30, Tryz.ntmps30
  go_wp2_with fail
  refine wp_region_held_drew (S := (fun w' => w'.cell? ⟨w.heap.size, 1, none⟩ = some (.int .i64 c) ∧ w'.cell? ⟨w.heap.size, 2, none⟩ = some (.int .i64 r) ∧ w'.cell? ⟨w.heap.size, 3, none⟩ = some (.int .u64 (a : Nat)) ∧ w'.cell? ⟨w.heap.size, 4, none⟩ = some (.int .u64 (v : Nat)))) (by kernel_rfl) (by (try dsimp only); exact ⟨n1, n2, n3, n4⟩) (fun hHeld => ?_)
  refine tk1 0 22 rfl ?_
  simp only [Act.put, tka, tk0, tkS]
  refine tk1 1 23 rfl ?_
  simp only [Act.put, tka, tk0, tkS]
  refine tk1 5 27 rfl ?_
  simp only [Act.put, tka, tk0, tkS]
  refine tk1 6 28 rfl ?_
  simp only [Act.put, tka, tk0, tkS]
  refine wpAnyH_ready (rs := [2]) (by kernel_rfl) (by simp) ?_
  refine AllReadyH.cons (o := ⟨some 24, _, _, _, _, _⟩) rfl (fun K hK => ?_) AllReadyH.nil
  go_simp
  go_at_call 28; refine (HHexA.out _).mono ?_; rintro e w3 ⟨rfl, hb⟩; have HN3 := h_ (show Blk w3 29 w.heap.size _ from Blk.below (s0j HN.out) hb); have HB3 := h_ (bt_ (HB.out.drew) hb); clear hb; obtain ⟨n0, n1, n2, n3, n4, n5⟩ := b0z HN3.out
  refine hK.out _ _ (by (try dsimp only); exact ⟨n1, n2, n3, n4⟩) ?_
  clear hK K hHeld
  intro hHeld
  try simp only [Act.put, tka, tk0, tkS]
  refine tk1 3 25 rfl ?_
  simp only [Act.put, tka, tk0, tkS]
  refine tk1 4 26 rfl ?_
  simp only [Act.put, tka, tk0, tkS]
  refine wpAnyH_ready (rs := [7]) (by kernel_rfl) (by simp) ?_
  refine AllReadyH.cons (o := ⟨some 29, _, _, _, _, _⟩) rfl (fun K hK => ?_) AllReadyH.nil
  go_simp
  go_at_call 28; refine (HHex.out _).mono ?_; rintro e w4 ⟨rfl, hb⟩; have HN4 := h_ (show Blk w4 29 w.heap.size _ from Blk.below HN3.out hb); have HB4 := h_ (bt_ HB3.out hb); clear hb; obtain ⟨n0, n1, n2, n3, n4, n5⟩ := b0z HN4.out
  refine hK.out _ _ (by (try dsimp only); exact ⟨n1, n2, n3, n4⟩) ?_
  clear hK K hHeld
  intro hHeld
  try simp only [Act.put, tka, tk0, tkS]
  refine tk1 8 30 rfl ?_
  simp only [Act.put, tka, tk0, tkS]
  refine tk1 9 2 rfl ?_
  simp only [Act.put, tka, tk0, tkS]
  refine wpAnyH_done (by kernel_rfl) ?_ _
  go_wp2_with fail
  go_ret
  exact ⟨by rw [HV.out]; unfold n0r; rw [if_neg k1, if_pos rfl, ← HA.out]; rfl, HB4.out⟩
 have e2 : (k == 2) = false := by rw [beq_eq_false_iff_ne]; exact k2
 by_cases k3 : k = 3
 ·subst k3
  obtain ⟨A1, hA1, hcat1⟩ := catx (P := Tryz.prog) [102, 97, 117, 108, 116, 115, 32] X1 (x := { data := #[102, 97, 117, 108, 116, 115, 32] }) rfl (y := (ba X1)) rfl (by simp; omega)
  obtain ⟨A2, hA2, hcat2⟩ := catx (P := Tryz.prog) A1 [61] (x := (ba A1)) rfl (y := { data := #[61] }) rfl (by rw [hA1]; simp; omega)
  obtain ⟨A3, hA3, hcat3⟩ := catx (P := Tryz.prog) A2 X4 (x := (ba A2)) rfl (y := (ba X4)) rfl (by rw [hA2, hA1]; simp; omega)
  have HA := h_ (show A3 = [102, 97, 117, 108, 116, 115, 32] ++ X1 ++ [61] ++ X4 by rw [hA3, hA2, hA1])
  clear hA1 hA2 hA3
  go_enter Tryz.func30, Tryz.ntmps30
  go_wp2_with fail
  refine wp_region_held_drew (S := (fun w' => w'.cell? ⟨w.heap.size, 1, none⟩ = some (.int .i64 c) ∧ w'.cell? ⟨w.heap.size, 2, none⟩ = some (.int .i64 r) ∧ w'.cell? ⟨w.heap.size, 3, none⟩ = some (.int .u64 (a : Nat)) ∧ w'.cell? ⟨w.heap.size, 4, none⟩ = some (.int .u64 (v : Nat)))) (by kernel_rfl) (by (try dsimp only); exact ⟨n1, n2, n3, n4⟩) (fun hHeld => ?_)
  refine tk1 0 33 rfl ?_
  simp only [Act.put, tka, tk0, tkS]
  refine tk1 1 34 rfl ?_
  simp only [Act.put, tka, tk0, tkS]
  refine tk1 5 38 rfl ?_
  simp only [Act.put, tka, tk0, tkS]
  refine tk1 6 39 rfl ?_
  simp only [Act.put, tka, tk0, tkS]
  refine wpAnyH_ready (rs := [2]) (by kernel_rfl) (by simp) ?_
  refine AllReadyH.cons (o := ⟨some 35, _, _, _, _, _⟩) rfl (fun K hK => ?_) AllReadyH.nil
  go_simp
  go_at_call 60; refine (HInt.out _).mono ?_; rintro e w3 ⟨rfl, m3, hw3⟩; have HN3 := h_ (show Blk w3 29 w.heap.size _ from by rw [hw3]; exact Blk.dn (s0j HN.out) m3); have HB3 := h_ (show Below w.heap.size w w3 from by rw [hw3]; exact bd_ (HB.out.drew) m3); clear hw3; obtain ⟨n0, n1, n2, n3, n4, n5⟩ := b0z HN3.out
  refine hK.out _ _ (by (try dsimp only); exact ⟨n1, n2, n3, n4⟩) ?_
  clear hK K hHeld
  intro hHeld
  try simp only [Act.put, tka, tk0, tkS]
  refine tk1 3 36 rfl ?_
  simp only [Act.put, tka, tk0, tkS]
  refine tk1 4 37 rfl ?_
  simp only [Act.put, tka, tk0, tkS]
  refine wpAnyH_ready (rs := [7]) (by kernel_rfl) (by simp) ?_
  refine AllReadyH.cons (o := ⟨some 40, _, _, _, _, _⟩) rfl (fun K hK => ?_) AllReadyH.nil
  go_simp
  go_at_call 28; refine (HHex.out _).mono ?_; rintro e w4 ⟨rfl, hb⟩; have HN4 := h_ (show Blk w4 29 w.heap.size _ from Blk.below HN3.out hb); have HB4 := h_ (bt_ HB3.out hb); clear hb; obtain ⟨n0, n1, n2, n3, n4, n5⟩ := b0z HN4.out
  refine hK.out _ _ (by (try dsimp only); exact ⟨n1, n2, n3, n4⟩) ?_
  clear hK K hHeld
  intro hHeld
  try simp only [Act.put, tka, tk0, tkS]
  refine tk1 8 41 rfl ?_
  simp only [Act.put, tka, tk0, tkS]
  refine tk1 9 2 rfl ?_
  simp only [Act.put, tka, tk0, tkS]
  refine wpAnyH_done (by kernel_rfl) ?_ _
  go_wp2_with fail
  go_ret
  exact ⟨by rw [HV.out]; unfold n0r; rw [if_neg k1, if_neg k2, if_pos rfl, ← HA.out]; rfl, HB4.out⟩
 have e3 : (k == 3) = false := by rw [beq_eq_false_iff_ne]; exact k3
 by_cases k7 : k = 7
 ·subst k7
  go_enter Tryz.func30, Tryz.ntmps30
  go_wp2_with fail
  go_ret
  exact ⟨by rw [HV.out]; unfold n0r; rw [if_neg k1, if_neg k2, if_neg k3, if_pos rfl]; rfl, HB.out⟩
 have e7 : (k == 7) = false := by rw [beq_eq_false_iff_ne]; exact k7
 have HV := h_ (show R = q0g k (f0g args) from by rw [HV.out]; unfold n0r; rw [if_neg k1, if_neg k2, if_neg k3, if_neg k7])
 by_cases h6 : k = 6 ∧ ln = 1
 ·obtain ⟨rfl, rfl⟩ := h6
  obtain ⟨u, rfl⟩ := List.length_eq_one_iff.1 hlen
  have hpart := HR.out.part (j := 0) (by simp)
  simp only [List.getElem_cons_zero, Nat.zero_mul, Nat.add_zero] at hpart
  obtain ⟨g, off, k', co', rg', ad', va', q', l', cp', rfl, c0, c1, c2, c3, c4, c5, hu⟩ := hpart
  have hcu : a0k u ≤ 1000 := by have := HLC.out; simp only [b0i] at this; omega
  have hlu := h0q u (CT.At.fits _ _ hu)
  have hil := c0g 3 (c0f u, a0m u)
  simp only at hil
  have HC := h_ (k0o u (HI.out u (by simp)) 3 (by decide) _ S _ hcu hu)
  have HV2 := h_ (show R = [126] ++ e0o 3 (c0f u, a0m u) from by rw [HV.out]; rfl)
  clear hu
  generalize e0o 3 (c0f u, a0m u) = X at *
  obtain ⟨A1, hA1, hcat1⟩ := catx (P := Tryz.prog) [126] X (x := { data := #[126] }) rfl (y := (ba X)) rfl (by simp; omega)
  have HA := h_ (show A1 = [126] ++ X by rw [hA1])
  clear hA1
  clear HHex HHexA HInt HReg
  go_enter Tryz.func30, Tryz.ntmps30
  go_wp2_with fail
  refine (HC.out).mono ?_
  rintro e w3 ⟨rfl, hb⟩
  have HB3 := h_ (bt_ HB.out hb)
  clear hb
  go_wp2_with fail
  go_ret
  exact ⟨by rw [HV2.out, ← HA.out]; rfl, HB3.out⟩
 by_cases h4 : k = 4 ∧ ln = 2
 ·obtain ⟨rfl, rfl⟩ := h4
  obtain ⟨u, t, rfl⟩ := f1b hlen
  have hpart := HR.out.part (j := 0) (by simp)
  simp only [List.getElem_cons_zero, Nat.zero_mul, Nat.add_zero] at hpart
  obtain ⟨g, off, k', co', rg', ad', va', q', l', cp', rfl, c0, c1, c2, c3, c4, c5, hu⟩ := hpart
  have hpart := HR.out.part (j := 1) (by simp)
  simp only [List.getElem_cons_zero, List.getElem_cons_succ, Nat.one_mul] at hpart
  obtain ⟨g2, off2, j0, j1, j2, j3, j4, jp, jl, jc, hgo, d0, d1, d2, d3, d4, d5, ht⟩ := hpart
  injection hgo with hgo
  injection hgo with hg1 hg2
  subst hg1 hg2
  have hcc := HLC.out
  simp only [b0i] at hcc
  have hcu : a0k u ≤ 1000 := by omega
  have hct : a0k t ≤ 1000 := by omega
  have hlu := h0q u (CT.At.fits _ _ hu)
  have hlt := h0q t (CT.At.fits _ _ ht)
  have hil := c0g 2 (c0f u, a0m u)
  have hjl := c0g 3 (c0f t, a0m t)
  simp only at hil hjl
  have HC := h_ (k0o u (HI.out u (by simp)) 2 (by decide) _ S _ hcu (CT.At.drew hu))
  have HD := h_ (fun w2 S2 cs2 (h2 : CT.At w2 S2 t cs2) => k0o t (HI.out t (by simp)) 3 (by decide) w2 S2 cs2 hct h2)
  have HT := h_ ht
  have HV2 := h_ (show R = e0o 2 (c0f u, a0m u) ++ [32, 47, 92, 32] ++ e0o 3 (c0f t, a0m t) from by rw [HV.out]; rfl)
  clear hu ht
  generalize e0o 2 (c0f u, a0m u) = X at *
  generalize e0o 3 (c0f t, a0m t) = Y at *
  obtain ⟨A1, hA1, hcat1⟩ := catx (P := Tryz.prog) X [32, 47, 92, 32] (x := (ba X)) rfl (y := { data := #[32, 47, 92, 32] }) rfl (by simp; omega)
  obtain ⟨A2, hA2, hcat2⟩ := catx (P := Tryz.prog) A1 Y (x := (ba A1)) rfl (y := (ba Y)) rfl (by rw [hA1]; simp; omega)
  have HA := h_ (show A2 = X ++ [32, 47, 92, 32] ++ Y by rw [hA2, hA1])
  clear hA1 hA2
  clear HHex HHexA HInt HReg
  go_enter Tryz.func30, Tryz.ntmps30
  go_wp2_with fail
  refine wp_region_held_drew (S := (fun w' => w'.cell? ⟨w.heap.size, 5, none⟩ = some (.slice (some ⟨g, off, none⟩) 2 cap) ∧ w'.cell? ⟨g, off, none⟩ = some (.int .i64 k') ∧ w'.cell? ⟨g, off + 1, none⟩ = some (.int .i64 co') ∧ w'.cell? ⟨g, off + 2, none⟩ = some (.int .i64 rg') ∧ w'.cell? ⟨g, off + 3, none⟩ = some (.int .u64 ad') ∧ w'.cell? ⟨g, off + 4, none⟩ = some (.int .u64 va') ∧ w'.cell? ⟨g, off + 5, none⟩ = some (.slice q' l' cp') ∧ w'.cell? ⟨g, off + 6, none⟩ = some (.int .i64 j0) ∧ w'.cell? ⟨g, off + 6 + 1, none⟩ = some (.int .i64 j1) ∧ w'.cell? ⟨g, off + 6 + 2, none⟩ = some (.int .i64 j2) ∧ w'.cell? ⟨g, off + 6 + 3, none⟩ = some (.int .u64 j3) ∧ w'.cell? ⟨g, off + 6 + 4, none⟩ = some (.int .u64 j4) ∧ w'.cell? ⟨g, off + 6 + 5, none⟩ = some (.slice jp jl jc))) (by kernel_rfl) (by (try dsimp only); exact ⟨n5, c0, c1, c2, c3, c4, c5, d0, d1, d2, d3, d4, d5⟩) (fun hHeld => ?_)
  refine tk1 0 70 rfl ?_
  simp only [Act.put, tka, tk0, tkS]
  refine tk1 1 71 rfl ?_
  simp only [Act.put, tka, tk0, tkS]
  refine tk1 2 72 rfl ?_
  simp only [Act.put, tka, tk0, tkS]
  refine tk1 3 73 rfl ?_
  simp only [Act.put, tka, tk0, tkS]
  refine tk1 6 76 rfl ?_
  simp only [Act.put, tka, tk0, tkS]
  refine tk1 7 77 rfl ?_
  simp only [Act.put, tka, tk0, tkS]
  refine tk1 8 78 rfl ?_
  simp only [Act.put, tka, tk0, tkS]
  refine tk1 9 79 rfl ?_
  simp only [Act.put, tka, tk0, tkS]
  refine wpAnyH_ready (rs := [4]) (by kernel_rfl) (by simp) ?_
  refine AllReadyH.cons (o := ⟨some 74, _, _, _, _, _⟩) rfl (fun K hK => ?_) AllReadyH.nil
  go_simp
  go_at_call 63; refine (HC.out).mono ?_; rintro e w3 ⟨rfl, hb⟩; have HT3 := h_ (HT.out.drew.below hb); have HB3 := h_ (bt_ HB.out.drew hb); have n5 := a0f n5 hb; have c0 := a0f c0 hb; have c1 := a0f c1 hb; have c2 := a0f c2 hb; have c3 := a0f c3 hb; have c4 := a0f c4 hb; have c5 := a0f c5 hb; have d0 := a0f d0 hb; have d1 := a0f d1 hb; have d2 := a0f d2 hb; have d3 := a0f d3 hb; have d4 := a0f d4 hb; have d5 := a0f d5 hb; clear hb
  refine hK.out _ _ (by (try dsimp only); exact ⟨n5, c0, c1, c2, c3, c4, c5, d0, d1, d2, d3, d4, d5⟩) ?_
  clear hK K hHeld
  intro hHeld
  try simp only [Act.put, tka, tk0, tkS]
  refine tk1 5 75 rfl ?_
  simp only [Act.put, tka, tk0, tkS]
  refine wpAnyH_ready (rs := [10]) (by kernel_rfl) (by simp) ?_
  refine AllReadyH.cons (o := ⟨some 80, _, _, _, _, _⟩) rfl (fun K hK => ?_) AllReadyH.nil
  go_simp
  go_at_call 63; refine (HD.out _ _ _ HT3.out).mono ?_; rintro e w4 ⟨rfl, hb⟩; have HB4 := h_ (bt_ HB3.out hb); have n5 := cell_below n5 hb; have c0 := cell_below c0 hb; have c1 := cell_below c1 hb; have c2 := cell_below c2 hb; have c3 := cell_below c3 hb; have c4 := cell_below c4 hb; have c5 := cell_below c5 hb; have d0 := cell_below d0 hb; have d1 := cell_below d1 hb; have d2 := cell_below d2 hb; have d3 := cell_below d3 hb; have d4 := cell_below d4 hb; have d5 := cell_below d5 hb; clear hb
  refine hK.out _ _ (by (try dsimp only); exact ⟨n5, c0, c1, c2, c3, c4, c5, d0, d1, d2, d3, d4, d5⟩) ?_
  clear hK K hHeld
  intro hHeld
  try simp only [Act.put, tka, tk0, tkS]
  refine tk1 11 81 rfl ?_
  simp only [Act.put, tka, tk0, tkS]
  refine tk1 12 2 rfl ?_
  simp only [Act.put, tka, tk0, tkS]
  refine wpAnyH_done (by kernel_rfl) ?_ _
  go_wp2_with fail
  go_ret
  exact ⟨by rw [HV2.out, ← HA.out]; rfl, HB4.out⟩
 by_cases h5 : k = 5 ∧ ln = 2
 ·obtain ⟨rfl, rfl⟩ := h5
  obtain ⟨u, t, rfl⟩ := f1b hlen
  have hpart := HR.out.part (j := 0) (by simp)
  simp only [List.getElem_cons_zero, Nat.zero_mul, Nat.add_zero] at hpart
  obtain ⟨g, off, k', co', rg', ad', va', q', l', cp', rfl, c0, c1, c2, c3, c4, c5, hu⟩ := hpart
  have hpart := HR.out.part (j := 1) (by simp)
  simp only [List.getElem_cons_zero, List.getElem_cons_succ, Nat.one_mul] at hpart
  obtain ⟨g2, off2, j0, j1, j2, j3, j4, jp, jl, jc, hgo, d0, d1, d2, d3, d4, d5, ht⟩ := hpart
  injection hgo with hgo
  injection hgo with hg1 hg2
  subst hg1 hg2
  have hcc := HLC.out
  simp only [b0i] at hcc
  have hcu : a0k u ≤ 1000 := by omega
  have hct : a0k t ≤ 1000 := by omega
  have hlu := h0q u (CT.At.fits _ _ hu)
  have hlt := h0q t (CT.At.fits _ _ ht)
  have hil := c0g 1 (c0f u, a0m u)
  have hjl := c0g 2 (c0f t, a0m t)
  simp only at hil hjl
  have HC := h_ (k0o u (HI.out u (by simp)) 1 (by decide) _ S _ hcu (CT.At.drew hu))
  have HD := h_ (fun w2 S2 cs2 (h2 : CT.At w2 S2 t cs2) => k0o t (HI.out t (by simp)) 2 (by decide) w2 S2 cs2 hct h2)
  have HT := h_ ht
  have HV2 := h_ (show R = e0o 1 (c0f u, a0m u) ++ [32, 92, 47, 32] ++ e0o 2 (c0f t, a0m t) from by rw [HV.out]; rfl)
  clear hu ht
  generalize e0o 1 (c0f u, a0m u) = X at *
  generalize e0o 2 (c0f t, a0m t) = Y at *
  obtain ⟨A1, hA1, hcat1⟩ := catx (P := Tryz.prog) X [32, 92, 47, 32] (x := (ba X)) rfl (y := { data := #[32, 92, 47, 32] }) rfl (by simp; omega)
  obtain ⟨A2, hA2, hcat2⟩ := catx (P := Tryz.prog) A1 Y (x := (ba A1)) rfl (y := (ba Y)) rfl (by rw [hA1]; simp; omega)
  have HA := h_ (show A2 = X ++ [32, 92, 47, 32] ++ Y by rw [hA2, hA1])
  clear hA1 hA2
  clear HHex HHexA HInt HReg
  go_enter Tryz.func30, Tryz.ntmps30
  go_wp2_with fail
  refine wp_region_held_drew (S := (fun w' => w'.cell? ⟨w.heap.size, 5, none⟩ = some (.slice (some ⟨g, off, none⟩) 2 cap) ∧ w'.cell? ⟨g, off, none⟩ = some (.int .i64 k') ∧ w'.cell? ⟨g, off + 1, none⟩ = some (.int .i64 co') ∧ w'.cell? ⟨g, off + 2, none⟩ = some (.int .i64 rg') ∧ w'.cell? ⟨g, off + 3, none⟩ = some (.int .u64 ad') ∧ w'.cell? ⟨g, off + 4, none⟩ = some (.int .u64 va') ∧ w'.cell? ⟨g, off + 5, none⟩ = some (.slice q' l' cp') ∧ w'.cell? ⟨g, off + 6, none⟩ = some (.int .i64 j0) ∧ w'.cell? ⟨g, off + 6 + 1, none⟩ = some (.int .i64 j1) ∧ w'.cell? ⟨g, off + 6 + 2, none⟩ = some (.int .i64 j2) ∧ w'.cell? ⟨g, off + 6 + 3, none⟩ = some (.int .u64 j3) ∧ w'.cell? ⟨g, off + 6 + 4, none⟩ = some (.int .u64 j4) ∧ w'.cell? ⟨g, off + 6 + 5, none⟩ = some (.slice jp jl jc))) (by kernel_rfl) (by (try dsimp only); exact ⟨n5, c0, c1, c2, c3, c4, c5, d0, d1, d2, d3, d4, d5⟩) (fun hHeld => ?_)
  refine tk1 0 92 rfl ?_
  simp only [Act.put, tka, tk0, tkS]
  refine tk1 1 93 rfl ?_
  simp only [Act.put, tka, tk0, tkS]
  refine tk1 2 94 rfl ?_
  simp only [Act.put, tka, tk0, tkS]
  refine tk1 3 95 rfl ?_
  simp only [Act.put, tka, tk0, tkS]
  refine tk1 6 98 rfl ?_
  simp only [Act.put, tka, tk0, tkS]
  refine tk1 7 99 rfl ?_
  simp only [Act.put, tka, tk0, tkS]
  refine tk1 8 100 rfl ?_
  simp only [Act.put, tka, tk0, tkS]
  refine tk1 9 101 rfl ?_
  simp only [Act.put, tka, tk0, tkS]
  refine wpAnyH_ready (rs := [4]) (by kernel_rfl) (by simp) ?_
  refine AllReadyH.cons (o := ⟨some 96, _, _, _, _, _⟩) rfl (fun K hK => ?_) AllReadyH.nil
  go_simp
  go_at_call 63; refine (HC.out).mono ?_; rintro e w3 ⟨rfl, hb⟩; have HT3 := h_ (HT.out.drew.below hb); have HB3 := h_ (bt_ HB.out.drew hb); have n5 := a0f n5 hb; have c0 := a0f c0 hb; have c1 := a0f c1 hb; have c2 := a0f c2 hb; have c3 := a0f c3 hb; have c4 := a0f c4 hb; have c5 := a0f c5 hb; have d0 := a0f d0 hb; have d1 := a0f d1 hb; have d2 := a0f d2 hb; have d3 := a0f d3 hb; have d4 := a0f d4 hb; have d5 := a0f d5 hb; clear hb
  refine hK.out _ _ (by (try dsimp only); exact ⟨n5, c0, c1, c2, c3, c4, c5, d0, d1, d2, d3, d4, d5⟩) ?_
  clear hK K hHeld
  intro hHeld
  try simp only [Act.put, tka, tk0, tkS]
  refine tk1 5 97 rfl ?_
  simp only [Act.put, tka, tk0, tkS]
  refine wpAnyH_ready (rs := [10]) (by kernel_rfl) (by simp) ?_
  refine AllReadyH.cons (o := ⟨some 102, _, _, _, _, _⟩) rfl (fun K hK => ?_) AllReadyH.nil
  go_simp
  go_at_call 63; refine (HD.out _ _ _ HT3.out).mono ?_; rintro e w4 ⟨rfl, hb⟩; have HB4 := h_ (bt_ HB3.out hb); have n5 := cell_below n5 hb; have c0 := cell_below c0 hb; have c1 := cell_below c1 hb; have c2 := cell_below c2 hb; have c3 := cell_below c3 hb; have c4 := cell_below c4 hb; have c5 := cell_below c5 hb; have d0 := cell_below d0 hb; have d1 := cell_below d1 hb; have d2 := cell_below d2 hb; have d3 := cell_below d3 hb; have d4 := cell_below d4 hb; have d5 := cell_below d5 hb; clear hb
  refine hK.out _ _ (by (try dsimp only); exact ⟨n5, c0, c1, c2, c3, c4, c5, d0, d1, d2, d3, d4, d5⟩) ?_
  clear hK K hHeld
  intro hHeld
  try simp only [Act.put, tka, tk0, tkS]
  refine tk1 11 103 rfl ?_
  simp only [Act.put, tka, tk0, tkS]
  refine tk1 12 2 rfl ?_
  simp only [Act.put, tka, tk0, tkS]
  refine wpAnyH_done (by kernel_rfl) ?_ _
  go_wp2_with fail
  go_ret
  exact ⟨by rw [HV2.out, ← HA.out]; rfl, HB4.out⟩
 have HV2 := h_ (show R = [] from by
  rw [HV.out]
  subst hlen
  match args, h6, h4, h5 with
  | [], _, _, _ => simp [f0g, q0g]
  | [x], h6, _, _ => have : ¬ k = 6 := fun e => h6 ⟨e, rfl⟩; simp [f0g, q0g, this]
  | [x, y], _, h4, h5 => have a1 : ¬ k = 4 := fun e => h4 ⟨e, rfl⟩; have a2 : ¬ k = 5 := fun e => h5 ⟨e, rfl⟩; simp [f0g, q0g, a1, a2]
  | x :: y :: z :: l, _, _, _ => simp [f0g, q0g])
 clear HHex HHexA HInt HReg HI HR HV hlen
 by_cases q6 : k = 6
 ·have hl1 : ¬ ln = 1 := fun e => h6 ⟨q6, e⟩
  have hl2 : ¬ (ln : Int) = 1 := by omega
  have hl3 : ((ln : Int) == 1) = false := by rw [beq_eq_false_iff_ne]; exact hl2
  clear h6 h4 h5
  subst q6
  go_enter Tryz.func30, Tryz.ntmps30
  go_wp2_with fail
  go_ret
  exact ⟨by rw [HV2.out]; rfl, HB.out⟩
 have e6 : (k == 6) = false := by rw [beq_eq_false_iff_ne]; exact q6
 by_cases q4 : k = 4
 ·have hl1 : ¬ ln = 2 := fun e => h4 ⟨q4, e⟩
  have hl2 : ¬ (ln : Int) = 2 := by omega
  have hl3 : ((ln : Int) == 2) = false := by rw [beq_eq_false_iff_ne]; exact hl2
  clear h6 h4 h5
  subst q4
  go_enter Tryz.func30, Tryz.ntmps30
  go_wp2_with fail
  go_ret
  exact ⟨by rw [HV2.out]; rfl, HB.out⟩
 have e4 : (k == 4) = false := by rw [beq_eq_false_iff_ne]; exact q4
 by_cases q5 : k = 5
 ·have hl1 : ¬ ln = 2 := fun e => h5 ⟨q5, e⟩
  have hl2 : ¬ (ln : Int) = 2 := by omega
  have hl3 : ((ln : Int) == 2) = false := by rw [beq_eq_false_iff_ne]; exact hl2
  clear h6 h4 h5
  subst q5
  go_enter Tryz.func30, Tryz.ntmps30
  go_wp2_with fail
  go_ret
  exact ⟨by rw [HV2.out]; rfl, HB.out⟩
 have e5 : (k == 5) = false := by rw [beq_eq_false_iff_ne]; exact q5
 go_enter Tryz.func30, Tryz.ntmps30
 go_wp2_with fail
 go_ret
 exact ⟨by rw [HV2.out]; rfl, HB.out⟩
end
end Go.Proofs.YtmnojnopejhebaaGreat
