/- granuleref11.Clean: are the fields that a sort of condition does not have zero? -/
import Derived.Test.YteepoohcdmjmhaaCondSame
import Derived.Test.YteepoohcdmjmhaaCondOne
import Derived.Test.YteepoohcdmjmhaaAnyInv
import Derived.Deep.DeepCutAuto
namespace Go.Proofs.Yteepoohcdmjmhaa
open Go.RowKit
set_option linter.unusedVariables false
set_option linter.unusedSimpArgs false

def zeroT (k c r : Int) (a v : Nat) (args : List CT) : CT := if k = 1 then .mk 1 c r 0 v args else if k = 2 then .mk 2 0 0 a v args else if k = 3 then .mk 3 c 0 0 v args else .mk k 0 0 0 0 args
mutual
def cleanT : CT → Bool
  | .mk k c r a v args => sameT (zeroT k c r a v args) (.mk k c r a v args) && cleanL args
def cleanL : List CT → Bool
  | [] => true
  | t :: ts => cleanT t && cleanL ts
end
theorem cleanL_hit : ∀ (l : List CT) (j : Nat) (h : j < l.length), cleanT l[j] = false → cleanL l = false
  | x :: l, 0, h, e => by
    have e' : cleanT x = false := e
    rw [cleanL, e']; rfl
  | x :: l, j + 1, h, e => by
    rw [cleanL, cleanL_hit l j (by simpa using h) (by simpa using e)]
    simp
theorem cleanL_all : ∀ (l : List CT), (∀ (j : Nat) (h : j < l.length), cleanT l[j] = true) → cleanL l = true
  | [], _ => by rw [cleanL]
  | x :: l, h => by
    rw [cleanL, show cleanT x = true from h 0 (by simp), cleanL_all l (fun j h1 => h (j + 1) (by simpa using h1))]
    rfl
theorem at_zero {w : World} {S : Nat → Prop} {k' c' r' : Int} {a' v' : Nat} {args : List CT} {p : Option Addr} {cap : Nat} (h2 : args.length ≤ cap) (h3 : cap ≤ maxLen) (hr : CT.Row w S p 0 args) (ha : a' < 18446744073709551616) (hv : v' < 18446744073709551616 ∧ I64 k' ∧ I64 c' ∧ I64 r') :
    CT.At w S (.mk k' c' r' a' v' args) [.int .i64 k', .int .i64 c', .int .i64 r', .int .u64 (a' : Nat), .int .u64 (v' : Nat), .slice p args.length cap] := by
  unfold CT.At
  exact ⟨p, cap, rfl, h2, h3, ha, hv, hr⟩
set_option maxRecDepth 100000 in
set_option maxHeartbeats 6400000 in
theorem clean_any : ∀ (t : CT) (w : World) (S : Nat → Prop) (cs : List Value), CT.At w S t cs →
    Calls Try.prog 17 #[.agg cs.toArray] w fun e w' => e = .returned (.bool (cleanT t)) ∧ Below w.heap.size w w' := by
  intro t
  refine CT.ind (P := fun t => ∀ (w : World) (S : Nat → Prop) (cs : List Value), CT.At w S t cs → Calls Try.prog 17 #[.agg cs.toArray] w fun e w' => e = .returned (.bool (cleanT t)) ∧ Below w.heap.size w w') ?_ t
  intro k c r a v args IH w S cs ht
  have HT0 := Lib.hid ht
  obtain ⟨p, cap, rfl, h1, h2, h3, ⟨hv, hkI, hcI, hrI⟩, h5⟩ := ht.own
  have HI := Lib.hid IH
  have HV := Lib.hid (show cleanT (.mk k c r a v args) = (sameT (zeroT k c r a v args) (.mk k c r a v args) && cleanL args) from rfl)
  generalize cleanT (.mk k c r a v args) = R at *
  have HZ1 := Lib.hid h1
  have HZ2 := Lib.hid h2
  obtain ⟨ln, hlen⟩ : ∃ n, args.length = n := ⟨_, rfl⟩
  have hcap : cap ≤ 9223372036854775807 := by unfold maxLen at h2; omega
  have hlc : ln ≤ cap := by omega
  have HLEN := Lib.hid hlen
  have HR := Lib.hid h5
  have HK := Lib.hid hkI
  have HCI := Lib.hid hcI
  have HRI := Lib.hid hrI
  clear ht IH h5 h1 h2 hkI hcI hrI
  have HHIT := Lib.hid (cleanL_hit args)
  have HALL := Lib.hid (cleanL_all args)
  rw [hlen] at HT0 ⊢
  clear hlen
  by_cases k1 : k = 1
  · subst k1
    have HX := Lib.hid (HV.out.trans (show _ = (sameT (.mk 1 c r 0 v args) (.mk 1 c r a v args) && cleanL args) from by rw [show zeroT 1 c r a v args = .mk 1 c r 0 v args from rfl]))
    clear HV
    have hbx := below_alloc (below_alloc (Below.refl w.heap.size w) (.cells #[.int .i64 1, .int .i64 c, .int .i64 r, .int .u64 (a : Nat), .int .u64 (v : Nat), .slice p ln cap] 25)) (.cells #[.int .i64 1, .int .i64 0, .int .i64 0, .int .u64 0, .int .u64 0, .slice p ln cap] 25)
    have HB := Lib.hid hbx
    have HN := Lib.hid ((own_box w #[.int .i64 1, .int .i64 c, .int .i64 r, .int .u64 (a : Nat), .int .u64 (v : Nat), .slice p ln cap]).alloc (.cells #[.int .i64 1, .int .i64 0, .int .i64 0, .int .u64 0, .int .u64 0, .slice p ln cap] 25))
    have HM := Lib.hid (show Blk ((w.alloc (.cells #[.int .i64 1, .int .i64 c, .int .i64 r, .int .u64 (a : Nat), .int .u64 (v : Nat), .slice p ln cap] 25)).alloc (.cells #[.int .i64 1, .int .i64 0, .int .i64 0, .int .u64 0, .int .u64 0, .slice p ln cap] 25)) 25 (w.heap.size + 1) [.int .i64 1, .int .i64 0, .int .i64 0, .int .u64 0, .int .u64 0, .slice p ln cap] from by simpa using own_box (w.alloc (.cells #[.int .i64 1, .int .i64 c, .int .i64 r, .int .u64 (a : Nat), .int .u64 (v : Nat), .slice p ln cap] 25)) #[.int .i64 1, .int .i64 0, .int .i64 0, .int .u64 0, .int .u64 0, .slice p ln cap])
    clear hbx
    obtain ⟨n0, n1, n2, n3, n4, n5⟩ := blk_cells6' HN.out
    go_enter Try.func17, Try.ntmps17
    go_upto_region 4 with fail
    generalize hW1 : ((w.alloc (.cells #[.int .i64 1, .int .i64 c, .int .i64 r, .int .u64 (a : Nat), .int .u64 (v : Nat), .slice p ln cap] 25)).alloc (.cells #[.int .i64 1, .int .i64 0, .int .i64 0, .int .u64 0, .int .u64 0, .slice p ln cap] 25)) = w1 at *
    have hsz : w.heap.size + 1 < w1.heap.size := by rw [← hW1]; first | (simp; done) | (simp; omega)
    clear hW1
    obtain ⟨m0, m1, m2, m3, m4, m5⟩ := blk_cells6' HM.out
    have y0 := HM.out.free 0
    have y1 := HM.out.free 1
    have y2 := HM.out.free 2
    have y3 := HM.out.free 3
    have y4 := HM.out.free 4
    go_region_held (fun w' => w'.cell? ⟨w.heap.size, 0, none⟩ = some (.int .i64 1) ∧ w'.cell? ⟨w.heap.size, 1, none⟩ = some (.int .i64 c) ∧ w'.cell? ⟨w.heap.size, 2, none⟩ = some (.int .i64 r) ∧ w'.cell? ⟨w.heap.size, 3, none⟩ = some (.int .u64 (a : Nat)) ∧ w'.cell? ⟨w.heap.size, 4, none⟩ = some (.int .u64 (v : Nat))) (go_keep) (fail)
    have hb : Below (w.heap.size + 1) w1 (((w1.setCell ⟨w.heap.size + 1, 1, none⟩ (.int .i64 c)).setCell ⟨w.heap.size + 1, 2, none⟩ (.int .i64 r)).setCell ⟨w.heap.size + 1, 4, none⟩ (.int .u64 ((v : Nat) : Int))).drew := below_drewN ((((Below.refl (w.heap.size + 1) w1).setCell (by simp) (.int .i64 c)).setCell (by simp) (.int .i64 r)).setCell (by simp) (.int .u64 ((v : Nat) : Int))) 1
    have HB3 := Lib.hid (show Below w.heap.size w (((w1.setCell ⟨w.heap.size + 1, 1, none⟩ (.int .i64 c)).setCell ⟨w.heap.size + 1, 2, none⟩ (.int .i64 r)).setCell ⟨w.heap.size + 1, 4, none⟩ (.int .u64 ((v : Nat) : Int))).drew from (HB.out).trans (hb.mono (by omega)))
    have HM3 := Lib.hid (show Blk (((w1.setCell ⟨w.heap.size + 1, 1, none⟩ (.int .i64 c)).setCell ⟨w.heap.size + 1, 2, none⟩ (.int .i64 r)).setCell ⟨w.heap.size + 1, 4, none⟩ (.int .u64 ((v : Nat) : Int))).drew 25 (w.heap.size + 1) [.int .i64 1, .int .i64 c, .int .i64 r, .int .u64 0, .int .u64 ((v : Nat) : Int), .slice p ln cap] from (((HM.out.set 1 (.int .i64 c)).set 2 (.int .i64 r)).set 4 (.int .u64 ((v : Nat) : Int))))
    have HN3 := Lib.hid (HN.out.belowB hb (by omega))
    have hsz3 : w1.heap.size ≤ (((w1.setCell ⟨w.heap.size + 1, 1, none⟩ (.int .i64 c)).setCell ⟨w.heap.size + 1, 2, none⟩ (.int .i64 r)).setCell ⟨w.heap.size + 1, 4, none⟩ (.int .u64 ((v : Nat) : Int))).drew.heap.size := hb.size
    clear hb HB HM HN n0 n1 n2 n3 n4 n5 m0 m1 m2 m3 m4 m5 y0 y1 y2 y3 y4
    generalize (((w1.setCell ⟨w.heap.size + 1, 1, none⟩ (.int .i64 c)).setCell ⟨w.heap.size + 1, 2, none⟩ (.int .i64 r)).setCell ⟨w.heap.size + 1, 4, none⟩ (.int .u64 ((v : Nat) : Int))).drew = w' at *
    obtain ⟨n0, n1, n2, n3, n4, n5⟩ := blk_cells6' HN3.out
    obtain ⟨m0, m1, m2, m3, m4, m5⟩ := blk_cells6' HM3.out
    have hzt := at_zero (k' := 1) (c' := c) (r' := r) (a' := 0) (v' := v) HZ1.out HZ2.out (HR.out.below HB3.out) (by decide) ⟨hv, by decide, HCI.out, HRI.out⟩
    rw [HLEN.out] at hzt
    have HC := Lib.hid (same_any _ _ _ _ _ _ _ hzt (HT0.out.below HB3.out))
    clear hzt
    go_wp2_with fail
    refine (HC.out).mono ?_
    rintro e w4 ⟨rfl, hb⟩
    have HB4 := Lib.hid (below_trans HB3.out hb)
    have HN4 := Lib.hid (HN3.out.below hb)
    have HR4 := Lib.hid (HR.out.below HB4.out)
    have hsz4 : w.heap.size + 1 < w4.heap.size := by have := hb.size; omega
    clear hb HC HT0 HR HB3 HN3 HM3 n0 n1 n2 n3 n4 n5 m0 m1 m2 m3 m4 m5
    obtain ⟨n0, n1, n2, n3, n4, n5⟩ := blk_cells6' HN4.out
    cases hY : sameT (.mk 1 c r 0 v args) (.mk 1 c r a v args)
    · have HF := Lib.hid (show R = false by rw [HX.out, hY]; rfl)
      go_wp2_with fail
      go_ret
      exact ⟨by rw [HF.out]; rfl, HB4.out⟩
    have HF := Lib.hid (show R = cleanL args by rw [HX.out, hY]; rfl)
    clear HX hY
    go_wp2_with fail
    go_loopw [4] (fun i wr => ∃ j : Nat, j ≤ ln ∧ i = .int .i64 j ∧ (∀ x (h : x < args.length), x < j → cleanT args[x] = true) ∧ Below w4.heap.size w4 wr) (fun i _ => ln - (intOf i).toNat)
    case atStart => exact ⟨0, by omega, rfl, fun x _ h => by omega, Below.refl _ _⟩
    case round =>
      obtain ⟨j, hj, rfl, h0, hb⟩ := hrel
      have HBR := Lib.hid hb
      have H0 := Lib.hid h0
      have n5r := cell_below n5 hb
      clear hb h0
      by_cases hjl : j < ln
      · have hj0 : (0 : Int) ≤ j := by omega
        have hjn : (j : Int) < ln := by omega
        have hja : j < args.length := by rw [HLEN.out]; exact hjl
        obtain ⟨g, off, ek, ec, er, ea, ev, eq, el, ep, rfl, e0, e1, e2, e3, e4, e5, hu⟩ := (HR4.out.below HBR.out).part hja
        have HC := Lib.hid (HI.out _ (List.getElem_mem hja) _ _ _ hu)
        have HH := Lib.hid (HHIT.out j hja)
        have HNX := Lib.hid (fun (e : cleanT args[j] = true) x (h : x < args.length) (hx : x < j + 1) => show cleanT args[x] = true by
          by_cases hxj : x = j
          · subst hxj; exact e
          · exact H0.out x h (by omega))
        clear hu
        generalize cleanT args[j] = Y at *
        generalize args[j] = t1 at *
        go_wp2_with fail
        refine (HC.out).mono ?_
        rintro e w5 ⟨rfl, hb⟩
        have HB5 := Lib.hid (below_trans HBR.out hb)
        clear hb HC
        cases hY : Y
        · have HFF := Lib.hid (HF.out.trans (HH.out hY))
          subst hY
          go_wp2_with fail
          go_ret
          exact ⟨by rw [HFF.out]; rfl, below_trans HB4.out HB5.out⟩
        · have HFF := Lib.hid (HNX.out hY)
          subst hY
          go_wp2_with fail
          go_roundw
          case rel => exact ⟨j + 1, by omega, by go_num, HFF.out, HB5.out⟩
          case measure => simp [intOf]; omega
      · obtain rfl : j = ln := by omega
        have HFF := Lib.hid (HF.out.trans (HALL.out (fun x h => H0.out x h (by rw [← HLEN.out]; exact h))))
        go_wp2_with fail
        go_ret
        exact ⟨by rw [HFF.out]; rfl, below_trans HB4.out HBR.out⟩
  by_cases k2 : k = 2
  · subst k2
    have HX := Lib.hid (HV.out.trans (show _ = (sameT (.mk 2 0 0 a v args) (.mk 2 c r a v args) && cleanL args) from by rw [show zeroT 2 c r a v args = .mk 2 0 0 a v args from rfl]))
    clear HV
    have hbx := below_alloc (below_alloc (Below.refl w.heap.size w) (.cells #[.int .i64 2, .int .i64 c, .int .i64 r, .int .u64 (a : Nat), .int .u64 (v : Nat), .slice p ln cap] 25)) (.cells #[.int .i64 2, .int .i64 0, .int .i64 0, .int .u64 0, .int .u64 0, .slice p ln cap] 25)
    have HB := Lib.hid hbx
    have HN := Lib.hid ((own_box w #[.int .i64 2, .int .i64 c, .int .i64 r, .int .u64 (a : Nat), .int .u64 (v : Nat), .slice p ln cap]).alloc (.cells #[.int .i64 2, .int .i64 0, .int .i64 0, .int .u64 0, .int .u64 0, .slice p ln cap] 25))
    have HM := Lib.hid (show Blk ((w.alloc (.cells #[.int .i64 2, .int .i64 c, .int .i64 r, .int .u64 (a : Nat), .int .u64 (v : Nat), .slice p ln cap] 25)).alloc (.cells #[.int .i64 2, .int .i64 0, .int .i64 0, .int .u64 0, .int .u64 0, .slice p ln cap] 25)) 25 (w.heap.size + 1) [.int .i64 2, .int .i64 0, .int .i64 0, .int .u64 0, .int .u64 0, .slice p ln cap] from by simpa using own_box (w.alloc (.cells #[.int .i64 2, .int .i64 c, .int .i64 r, .int .u64 (a : Nat), .int .u64 (v : Nat), .slice p ln cap] 25)) #[.int .i64 2, .int .i64 0, .int .i64 0, .int .u64 0, .int .u64 0, .slice p ln cap])
    clear hbx
    obtain ⟨n0, n1, n2, n3, n4, n5⟩ := blk_cells6' HN.out
    go_enter Try.func17, Try.ntmps17
    go_upto_region 6 with fail
    generalize hW1 : ((w.alloc (.cells #[.int .i64 2, .int .i64 c, .int .i64 r, .int .u64 (a : Nat), .int .u64 (v : Nat), .slice p ln cap] 25)).alloc (.cells #[.int .i64 2, .int .i64 0, .int .i64 0, .int .u64 0, .int .u64 0, .slice p ln cap] 25)) = w1 at *
    have hsz : w.heap.size + 1 < w1.heap.size := by rw [← hW1]; first | (simp; done) | (simp; omega)
    clear hW1
    obtain ⟨m0, m1, m2, m3, m4, m5⟩ := blk_cells6' HM.out
    have y0 := HM.out.free 0
    have y1 := HM.out.free 1
    have y2 := HM.out.free 2
    have y3 := HM.out.free 3
    have y4 := HM.out.free 4
    go_region_held (fun w' => w'.cell? ⟨w.heap.size, 0, none⟩ = some (.int .i64 2) ∧ w'.cell? ⟨w.heap.size, 1, none⟩ = some (.int .i64 c) ∧ w'.cell? ⟨w.heap.size, 2, none⟩ = some (.int .i64 r) ∧ w'.cell? ⟨w.heap.size, 3, none⟩ = some (.int .u64 (a : Nat)) ∧ w'.cell? ⟨w.heap.size, 4, none⟩ = some (.int .u64 (v : Nat))) (go_keep) (fail)
    have hb : Below (w.heap.size + 1) w1 ((w1.setCell ⟨w.heap.size + 1, 3, none⟩ (.int .u64 ((a : Nat) : Int))).setCell ⟨w.heap.size + 1, 4, none⟩ (.int .u64 ((v : Nat) : Int))).drew := below_drewN (((Below.refl (w.heap.size + 1) w1).setCell (by simp) (.int .u64 ((a : Nat) : Int))).setCell (by simp) (.int .u64 ((v : Nat) : Int))) 1
    have HB3 := Lib.hid (show Below w.heap.size w ((w1.setCell ⟨w.heap.size + 1, 3, none⟩ (.int .u64 ((a : Nat) : Int))).setCell ⟨w.heap.size + 1, 4, none⟩ (.int .u64 ((v : Nat) : Int))).drew from (HB.out).trans (hb.mono (by omega)))
    have HM3 := Lib.hid (show Blk ((w1.setCell ⟨w.heap.size + 1, 3, none⟩ (.int .u64 ((a : Nat) : Int))).setCell ⟨w.heap.size + 1, 4, none⟩ (.int .u64 ((v : Nat) : Int))).drew 25 (w.heap.size + 1) [.int .i64 2, .int .i64 0, .int .i64 0, .int .u64 ((a : Nat) : Int), .int .u64 ((v : Nat) : Int), .slice p ln cap] from ((HM.out.set 3 (.int .u64 ((a : Nat) : Int))).set 4 (.int .u64 ((v : Nat) : Int))))
    have HN3 := Lib.hid (HN.out.belowB hb (by omega))
    have hsz3 : w1.heap.size ≤ ((w1.setCell ⟨w.heap.size + 1, 3, none⟩ (.int .u64 ((a : Nat) : Int))).setCell ⟨w.heap.size + 1, 4, none⟩ (.int .u64 ((v : Nat) : Int))).drew.heap.size := hb.size
    clear hb HB HM HN n0 n1 n2 n3 n4 n5 m0 m1 m2 m3 m4 m5 y0 y1 y2 y3 y4
    generalize ((w1.setCell ⟨w.heap.size + 1, 3, none⟩ (.int .u64 ((a : Nat) : Int))).setCell ⟨w.heap.size + 1, 4, none⟩ (.int .u64 ((v : Nat) : Int))).drew = w' at *
    obtain ⟨n0, n1, n2, n3, n4, n5⟩ := blk_cells6' HN3.out
    obtain ⟨m0, m1, m2, m3, m4, m5⟩ := blk_cells6' HM3.out
    have hzt := at_zero (k' := 2) (c' := 0) (r' := 0) (a' := a) (v' := v) HZ1.out HZ2.out (HR.out.below HB3.out) h3 ⟨hv, by decide, by decide, by decide⟩
    rw [HLEN.out] at hzt
    have HC := Lib.hid (same_any _ _ _ _ _ _ _ hzt (HT0.out.below HB3.out))
    clear hzt
    go_wp2_with fail
    refine (HC.out).mono ?_
    rintro e w4 ⟨rfl, hb⟩
    have HB4 := Lib.hid (below_trans HB3.out hb)
    have HN4 := Lib.hid (HN3.out.below hb)
    have HR4 := Lib.hid (HR.out.below HB4.out)
    have hsz4 : w.heap.size + 1 < w4.heap.size := by have := hb.size; omega
    clear hb HC HT0 HR HB3 HN3 HM3 n0 n1 n2 n3 n4 n5 m0 m1 m2 m3 m4 m5
    obtain ⟨n0, n1, n2, n3, n4, n5⟩ := blk_cells6' HN4.out
    cases hY : sameT (.mk 2 0 0 a v args) (.mk 2 c r a v args)
    · have HF := Lib.hid (show R = false by rw [HX.out, hY]; rfl)
      go_wp2_with fail
      go_ret
      exact ⟨by rw [HF.out]; rfl, HB4.out⟩
    have HF := Lib.hid (show R = cleanL args by rw [HX.out, hY]; rfl)
    clear HX hY
    go_wp2_with fail
    go_loopw [4] (fun i wr => ∃ j : Nat, j ≤ ln ∧ i = .int .i64 j ∧ (∀ x (h : x < args.length), x < j → cleanT args[x] = true) ∧ Below w4.heap.size w4 wr) (fun i _ => ln - (intOf i).toNat)
    case atStart => exact ⟨0, by omega, rfl, fun x _ h => by omega, Below.refl _ _⟩
    case round =>
      obtain ⟨j, hj, rfl, h0, hb⟩ := hrel
      have HBR := Lib.hid hb
      have H0 := Lib.hid h0
      have n5r := cell_below n5 hb
      clear hb h0
      by_cases hjl : j < ln
      · have hj0 : (0 : Int) ≤ j := by omega
        have hjn : (j : Int) < ln := by omega
        have hja : j < args.length := by rw [HLEN.out]; exact hjl
        obtain ⟨g, off, ek, ec, er, ea, ev, eq, el, ep, rfl, e0, e1, e2, e3, e4, e5, hu⟩ := (HR4.out.below HBR.out).part hja
        have HC := Lib.hid (HI.out _ (List.getElem_mem hja) _ _ _ hu)
        have HH := Lib.hid (HHIT.out j hja)
        have HNX := Lib.hid (fun (e : cleanT args[j] = true) x (h : x < args.length) (hx : x < j + 1) => show cleanT args[x] = true by
          by_cases hxj : x = j
          · subst hxj; exact e
          · exact H0.out x h (by omega))
        clear hu
        generalize cleanT args[j] = Y at *
        generalize args[j] = t1 at *
        go_wp2_with fail
        refine (HC.out).mono ?_
        rintro e w5 ⟨rfl, hb⟩
        have HB5 := Lib.hid (below_trans HBR.out hb)
        clear hb HC
        cases hY : Y
        · have HFF := Lib.hid (HF.out.trans (HH.out hY))
          subst hY
          go_wp2_with fail
          go_ret
          exact ⟨by rw [HFF.out]; rfl, below_trans HB4.out HB5.out⟩
        · have HFF := Lib.hid (HNX.out hY)
          subst hY
          go_wp2_with fail
          go_roundw
          case rel => exact ⟨j + 1, by omega, by go_num, HFF.out, HB5.out⟩
          case measure => simp [intOf]; omega
      · obtain rfl : j = ln := by omega
        have HFF := Lib.hid (HF.out.trans (HALL.out (fun x h => H0.out x h (by rw [← HLEN.out]; exact h))))
        go_wp2_with fail
        go_ret
        exact ⟨by rw [HFF.out]; rfl, below_trans HB4.out HBR.out⟩
  by_cases k3 : k = 3
  · subst k3
    have HX := Lib.hid (HV.out.trans (show _ = (sameT (.mk 3 c 0 0 v args) (.mk 3 c r a v args) && cleanL args) from by rw [show zeroT 3 c r a v args = .mk 3 c 0 0 v args from rfl]))
    clear HV
    have hbx := below_alloc (below_alloc (Below.refl w.heap.size w) (.cells #[.int .i64 3, .int .i64 c, .int .i64 r, .int .u64 (a : Nat), .int .u64 (v : Nat), .slice p ln cap] 25)) (.cells #[.int .i64 3, .int .i64 0, .int .i64 0, .int .u64 0, .int .u64 0, .slice p ln cap] 25)
    have HB := Lib.hid hbx
    have HN := Lib.hid ((own_box w #[.int .i64 3, .int .i64 c, .int .i64 r, .int .u64 (a : Nat), .int .u64 (v : Nat), .slice p ln cap]).alloc (.cells #[.int .i64 3, .int .i64 0, .int .i64 0, .int .u64 0, .int .u64 0, .slice p ln cap] 25))
    have HM := Lib.hid (show Blk ((w.alloc (.cells #[.int .i64 3, .int .i64 c, .int .i64 r, .int .u64 (a : Nat), .int .u64 (v : Nat), .slice p ln cap] 25)).alloc (.cells #[.int .i64 3, .int .i64 0, .int .i64 0, .int .u64 0, .int .u64 0, .slice p ln cap] 25)) 25 (w.heap.size + 1) [.int .i64 3, .int .i64 0, .int .i64 0, .int .u64 0, .int .u64 0, .slice p ln cap] from by simpa using own_box (w.alloc (.cells #[.int .i64 3, .int .i64 c, .int .i64 r, .int .u64 (a : Nat), .int .u64 (v : Nat), .slice p ln cap] 25)) #[.int .i64 3, .int .i64 0, .int .i64 0, .int .u64 0, .int .u64 0, .slice p ln cap])
    clear hbx
    obtain ⟨n0, n1, n2, n3, n4, n5⟩ := blk_cells6' HN.out
    go_enter Try.func17, Try.ntmps17
    go_upto_region 8 with fail
    generalize hW1 : ((w.alloc (.cells #[.int .i64 3, .int .i64 c, .int .i64 r, .int .u64 (a : Nat), .int .u64 (v : Nat), .slice p ln cap] 25)).alloc (.cells #[.int .i64 3, .int .i64 0, .int .i64 0, .int .u64 0, .int .u64 0, .slice p ln cap] 25)) = w1 at *
    have hsz : w.heap.size + 1 < w1.heap.size := by rw [← hW1]; first | (simp; done) | (simp; omega)
    clear hW1
    obtain ⟨m0, m1, m2, m3, m4, m5⟩ := blk_cells6' HM.out
    have y0 := HM.out.free 0
    have y1 := HM.out.free 1
    have y2 := HM.out.free 2
    have y3 := HM.out.free 3
    have y4 := HM.out.free 4
    go_region_held (fun w' => w'.cell? ⟨w.heap.size, 0, none⟩ = some (.int .i64 3) ∧ w'.cell? ⟨w.heap.size, 1, none⟩ = some (.int .i64 c) ∧ w'.cell? ⟨w.heap.size, 2, none⟩ = some (.int .i64 r) ∧ w'.cell? ⟨w.heap.size, 3, none⟩ = some (.int .u64 (a : Nat)) ∧ w'.cell? ⟨w.heap.size, 4, none⟩ = some (.int .u64 (v : Nat))) (go_keep) (fail)
    have hb : Below (w.heap.size + 1) w1 ((w1.setCell ⟨w.heap.size + 1, 1, none⟩ (.int .i64 c)).setCell ⟨w.heap.size + 1, 4, none⟩ (.int .u64 ((v : Nat) : Int))).drew := below_drewN (((Below.refl (w.heap.size + 1) w1).setCell (by simp) (.int .i64 c)).setCell (by simp) (.int .u64 ((v : Nat) : Int))) 1
    have HB3 := Lib.hid (show Below w.heap.size w ((w1.setCell ⟨w.heap.size + 1, 1, none⟩ (.int .i64 c)).setCell ⟨w.heap.size + 1, 4, none⟩ (.int .u64 ((v : Nat) : Int))).drew from (HB.out).trans (hb.mono (by omega)))
    have HM3 := Lib.hid (show Blk ((w1.setCell ⟨w.heap.size + 1, 1, none⟩ (.int .i64 c)).setCell ⟨w.heap.size + 1, 4, none⟩ (.int .u64 ((v : Nat) : Int))).drew 25 (w.heap.size + 1) [.int .i64 3, .int .i64 c, .int .i64 0, .int .u64 0, .int .u64 ((v : Nat) : Int), .slice p ln cap] from ((HM.out.set 1 (.int .i64 c)).set 4 (.int .u64 ((v : Nat) : Int))))
    have HN3 := Lib.hid (HN.out.belowB hb (by omega))
    have hsz3 : w1.heap.size ≤ ((w1.setCell ⟨w.heap.size + 1, 1, none⟩ (.int .i64 c)).setCell ⟨w.heap.size + 1, 4, none⟩ (.int .u64 ((v : Nat) : Int))).drew.heap.size := hb.size
    clear hb HB HM HN n0 n1 n2 n3 n4 n5 m0 m1 m2 m3 m4 m5 y0 y1 y2 y3 y4
    generalize ((w1.setCell ⟨w.heap.size + 1, 1, none⟩ (.int .i64 c)).setCell ⟨w.heap.size + 1, 4, none⟩ (.int .u64 ((v : Nat) : Int))).drew = w' at *
    obtain ⟨n0, n1, n2, n3, n4, n5⟩ := blk_cells6' HN3.out
    obtain ⟨m0, m1, m2, m3, m4, m5⟩ := blk_cells6' HM3.out
    have hzt := at_zero (k' := 3) (c' := c) (r' := 0) (a' := 0) (v' := v) HZ1.out HZ2.out (HR.out.below HB3.out) (by decide) ⟨hv, by decide, HCI.out, by decide⟩
    rw [HLEN.out] at hzt
    have HC := Lib.hid (same_any _ _ _ _ _ _ _ hzt (HT0.out.below HB3.out))
    clear hzt
    go_wp2_with fail
    refine (HC.out).mono ?_
    rintro e w4 ⟨rfl, hb⟩
    have HB4 := Lib.hid (below_trans HB3.out hb)
    have HN4 := Lib.hid (HN3.out.below hb)
    have HR4 := Lib.hid (HR.out.below HB4.out)
    have hsz4 : w.heap.size + 1 < w4.heap.size := by have := hb.size; omega
    clear hb HC HT0 HR HB3 HN3 HM3 n0 n1 n2 n3 n4 n5 m0 m1 m2 m3 m4 m5
    obtain ⟨n0, n1, n2, n3, n4, n5⟩ := blk_cells6' HN4.out
    cases hY : sameT (.mk 3 c 0 0 v args) (.mk 3 c r a v args)
    · have HF := Lib.hid (show R = false by rw [HX.out, hY]; rfl)
      go_wp2_with fail
      go_ret
      exact ⟨by rw [HF.out]; rfl, HB4.out⟩
    have HF := Lib.hid (show R = cleanL args by rw [HX.out, hY]; rfl)
    clear HX hY
    go_wp2_with fail
    go_loopw [4] (fun i wr => ∃ j : Nat, j ≤ ln ∧ i = .int .i64 j ∧ (∀ x (h : x < args.length), x < j → cleanT args[x] = true) ∧ Below w4.heap.size w4 wr) (fun i _ => ln - (intOf i).toNat)
    case atStart => exact ⟨0, by omega, rfl, fun x _ h => by omega, Below.refl _ _⟩
    case round =>
      obtain ⟨j, hj, rfl, h0, hb⟩ := hrel
      have HBR := Lib.hid hb
      have H0 := Lib.hid h0
      have n5r := cell_below n5 hb
      clear hb h0
      by_cases hjl : j < ln
      · have hj0 : (0 : Int) ≤ j := by omega
        have hjn : (j : Int) < ln := by omega
        have hja : j < args.length := by rw [HLEN.out]; exact hjl
        obtain ⟨g, off, ek, ec, er, ea, ev, eq, el, ep, rfl, e0, e1, e2, e3, e4, e5, hu⟩ := (HR4.out.below HBR.out).part hja
        have HC := Lib.hid (HI.out _ (List.getElem_mem hja) _ _ _ hu)
        have HH := Lib.hid (HHIT.out j hja)
        have HNX := Lib.hid (fun (e : cleanT args[j] = true) x (h : x < args.length) (hx : x < j + 1) => show cleanT args[x] = true by
          by_cases hxj : x = j
          · subst hxj; exact e
          · exact H0.out x h (by omega))
        clear hu
        generalize cleanT args[j] = Y at *
        generalize args[j] = t1 at *
        go_wp2_with fail
        refine (HC.out).mono ?_
        rintro e w5 ⟨rfl, hb⟩
        have HB5 := Lib.hid (below_trans HBR.out hb)
        clear hb HC
        cases hY : Y
        · have HFF := Lib.hid (HF.out.trans (HH.out hY))
          subst hY
          go_wp2_with fail
          go_ret
          exact ⟨by rw [HFF.out]; rfl, below_trans HB4.out HB5.out⟩
        · have HFF := Lib.hid (HNX.out hY)
          subst hY
          go_wp2_with fail
          go_roundw
          case rel => exact ⟨j + 1, by omega, by go_num, HFF.out, HB5.out⟩
          case measure => simp [intOf]; omega
      · obtain rfl : j = ln := by omega
        have HFF := Lib.hid (HF.out.trans (HALL.out (fun x h => H0.out x h (by rw [← HLEN.out]; exact h))))
        go_wp2_with fail
        go_ret
        exact ⟨by rw [HFF.out]; rfl, below_trans HB4.out HBR.out⟩
  have q1 : (k == 1) = false := by rw [beq_eq_false_iff_ne]; exact k1
  have q2 : (k == 2) = false := by rw [beq_eq_false_iff_ne]; exact k2
  have q3 : (k == 3) = false := by rw [beq_eq_false_iff_ne]; exact k3
  have HX := Lib.hid (HV.out.trans (show _ = (sameT (.mk k 0 0 0 0 args) (.mk k c r a v args) && cleanL args) from by rw [show zeroT k c r a v args = .mk k 0 0 0 0 args by unfold zeroT; rw [if_neg k1, if_neg k2, if_neg k3]]))
  clear HV
  have hbx := below_alloc (below_alloc (Below.refl w.heap.size w) (.cells #[.int .i64 k, .int .i64 c, .int .i64 r, .int .u64 (a : Nat), .int .u64 (v : Nat), .slice p ln cap] 25)) (.cells #[.int .i64 k, .int .i64 0, .int .i64 0, .int .u64 0, .int .u64 0, .slice p ln cap] 25)
  have HB := Lib.hid hbx
  have HN := Lib.hid ((own_box w #[.int .i64 k, .int .i64 c, .int .i64 r, .int .u64 (a : Nat), .int .u64 (v : Nat), .slice p ln cap]).alloc (.cells #[.int .i64 k, .int .i64 0, .int .i64 0, .int .u64 0, .int .u64 0, .slice p ln cap] 25))
  have HM := Lib.hid (show Blk ((w.alloc (.cells #[.int .i64 k, .int .i64 c, .int .i64 r, .int .u64 (a : Nat), .int .u64 (v : Nat), .slice p ln cap] 25)).alloc (.cells #[.int .i64 k, .int .i64 0, .int .i64 0, .int .u64 0, .int .u64 0, .slice p ln cap] 25)) 25 (w.heap.size + 1) [.int .i64 k, .int .i64 0, .int .i64 0, .int .u64 0, .int .u64 0, .slice p ln cap] from by simpa using own_box (w.alloc (.cells #[.int .i64 k, .int .i64 c, .int .i64 r, .int .u64 (a : Nat), .int .u64 (v : Nat), .slice p ln cap] 25)) #[.int .i64 k, .int .i64 0, .int .i64 0, .int .u64 0, .int .u64 0, .slice p ln cap])
  clear hbx
  obtain ⟨n0, n1, n2, n3, n4, n5⟩ := blk_cells6' HN.out
  go_enter Try.func17, Try.ntmps17
  go_upto_region 9 with fail
  generalize hW1 : ((w.alloc (.cells #[.int .i64 k, .int .i64 c, .int .i64 r, .int .u64 (a : Nat), .int .u64 (v : Nat), .slice p ln cap] 25)).alloc (.cells #[.int .i64 k, .int .i64 0, .int .i64 0, .int .u64 0, .int .u64 0, .slice p ln cap] 25)) = w1 at *
  have hsz : w.heap.size + 1 < w1.heap.size := by rw [← hW1]; first | (simp; done) | (simp; omega)
  clear hW1
  have HB3 := HB
  have HM3 := HM
  have HN3 := HN
  clear n0 n1 n2 n3 n4 n5
  obtain ⟨n0, n1, n2, n3, n4, n5⟩ := blk_cells6' HN3.out
  obtain ⟨m0, m1, m2, m3, m4, m5⟩ := blk_cells6' HM3.out
  have hzt := at_zero (k' := k) (c' := 0) (r' := 0) (a' := 0) (v' := 0) HZ1.out HZ2.out (HR.out.below HB3.out) (by decide) ⟨by decide, HK.out, by decide, by decide⟩
  rw [HLEN.out] at hzt
  have HC := Lib.hid (same_any _ _ _ _ _ _ _ hzt (HT0.out.below HB3.out))
  clear hzt
  go_wp2_with fail
  refine (HC.out).mono ?_
  rintro e w4 ⟨rfl, hb⟩
  have HB4 := Lib.hid (below_trans HB3.out hb)
  have HN4 := Lib.hid (HN3.out.below hb)
  have HR4 := Lib.hid (HR.out.below HB4.out)
  have hsz4 : w.heap.size + 1 < w4.heap.size := by have := hb.size; omega
  clear hb HC HT0 HR HB3 HN3 HM3 n0 n1 n2 n3 n4 n5 m0 m1 m2 m3 m4 m5
  obtain ⟨n0, n1, n2, n3, n4, n5⟩ := blk_cells6' HN4.out
  cases hY : sameT (.mk k 0 0 0 0 args) (.mk k c r a v args)
  · have HF := Lib.hid (show R = false by rw [HX.out, hY]; rfl)
    go_wp2_with fail
    go_ret
    exact ⟨by rw [HF.out]; rfl, HB4.out⟩
  have HF := Lib.hid (show R = cleanL args by rw [HX.out, hY]; rfl)
  clear HX hY
  go_wp2_with fail
  go_loopw [4] (fun i wr => ∃ j : Nat, j ≤ ln ∧ i = .int .i64 j ∧ (∀ x (h : x < args.length), x < j → cleanT args[x] = true) ∧ Below w4.heap.size w4 wr) (fun i _ => ln - (intOf i).toNat)
  case atStart => exact ⟨0, by omega, rfl, fun x _ h => by omega, Below.refl _ _⟩
  case round =>
    obtain ⟨j, hj, rfl, h0, hb⟩ := hrel
    have HBR := Lib.hid hb
    have H0 := Lib.hid h0
    have n5r := cell_below n5 hb
    clear hb h0
    by_cases hjl : j < ln
    · have hj0 : (0 : Int) ≤ j := by omega
      have hjn : (j : Int) < ln := by omega
      have hja : j < args.length := by rw [HLEN.out]; exact hjl
      obtain ⟨g, off, ek, ec, er, ea, ev, eq, el, ep, rfl, e0, e1, e2, e3, e4, e5, hu⟩ := (HR4.out.below HBR.out).part hja
      have HC := Lib.hid (HI.out _ (List.getElem_mem hja) _ _ _ hu)
      have HH := Lib.hid (HHIT.out j hja)
      have HNX := Lib.hid (fun (e : cleanT args[j] = true) x (h : x < args.length) (hx : x < j + 1) => show cleanT args[x] = true by
        by_cases hxj : x = j
        · subst hxj; exact e
        · exact H0.out x h (by omega))
      clear hu
      generalize cleanT args[j] = Y at *
      generalize args[j] = t1 at *
      go_wp2_with fail
      refine (HC.out).mono ?_
      rintro e w5 ⟨rfl, hb⟩
      have HB5 := Lib.hid (below_trans HBR.out hb)
      clear hb HC
      cases hY : Y
      · have HFF := Lib.hid (HF.out.trans (HH.out hY))
        subst hY
        go_wp2_with fail
        go_ret
        exact ⟨by rw [HFF.out]; rfl, below_trans HB4.out HB5.out⟩
      · have HFF := Lib.hid (HNX.out hY)
        subst hY
        go_wp2_with fail
        go_roundw
        case rel => exact ⟨j + 1, by omega, by go_num, HFF.out, HB5.out⟩
        case measure => simp [intOf]; omega
    · obtain rfl : j = ln := by omega
      have HFF := Lib.hid (HF.out.trans (HALL.out (fun x h => H0.out x h (by rw [← HLEN.out]; exact h))))
      go_wp2_with fail
      go_ret
      exact ⟨by rw [HFF.out]; rfl, below_trans HB4.out HBR.out⟩
end Go.Proofs.Yteepoohcdmjmhaa
