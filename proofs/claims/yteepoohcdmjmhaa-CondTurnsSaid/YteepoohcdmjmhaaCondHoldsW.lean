/- Whether a condition is so of an outcome: the walks. -/
import Derived.Test.YteepoohcdmjmhaaCondOut
import Derived.Test.YteepoohcdmjmhaaCondPrint
namespace Go.Proofs.Yteepoohcdmjmhaa
open Go.RowKit
set_option linter.unusedVariables false
set_option linter.unusedSimpArgs false

def lastC (a : Int) (l : List (Int × Int)) : Int := l.foldl (fun acc x => if x.1 = a then x.2 else acc) 0
theorem lastC_take (a : Int) (l : List (Int × Int)) (j : Nat) (hj : j < l.length) : lastC a (l.take (j + 1)) = if (l[j]).1 = a then (l[j]).2 else lastC a (l.take j) := by
  unfold lastC
  rw [List.take_succ_eq_append_getElem hj, List.foldl_append]
  rfl
theorem fold_none (a : Int) : ∀ (l : List (Int × Int)) (z : Int), (∀ x ∈ l, ¬ x.1 = a) → l.foldl (fun acc x => if x.1 = a then x.2 else acc) z = z
  | [], z, _ => rfl
  | x :: l, z, h => by
    rw [List.foldl_cons, if_neg (h x (by simp))]
    exact fold_none a l z (fun y hy => h y (by simp [hy]))
theorem lastC_hit (a : Int) (l : List (Int × Int)) (j : Nat) (hj : j < l.length) (h : (l[j]).1 = a) (hn : ∀ x ∈ l.drop (j + 1), ¬ x.1 = a) : lastC a l = (l[j]).2 := by
  have e : lastC a l = lastC a (l.take (j + 1)) := by
    unfold lastC
    conv => lhs; rw [← List.take_append_drop (j + 1) l, List.foldl_append]
    exact fold_none a _ _ hn
  rw [e, lastC_take a l j hj, if_pos h]
theorem lastC_none (a : Int) (l : List (Int × Int)) (hn : ∀ x ∈ l, ¬ x.1 = a) : lastC a l = 0 := fold_none a l 0 hn
def regX (o : OU) (c r : Int) (v : Nat) : Bool := decide (0 ≤ c) && (decide (c < o.regs.length) && (decide (0 ≤ r) && (decide (r < (o.regs.getD c.toNat []).length) && decide ((o.regs.getD c.toNat []).getD r.toNat 0 = v))))
def fltX (o : OU) (c : Int) (v : Nat) : Bool := decide (0 ≤ c) && (decide (c < o.faults.length) && decide (o.faults.getD c.toNat 0 = v))
def argsB (k : Int) : List Bool → Bool
  | [x] => if k = 6 then !x else false
  | [x, y] => if k = 4 then x && y else if k = 5 then x || y else false
  | _ => false
def holdsX (o : OU) (k c r : Int) (a v : Nat) (bs : List Bool) : Bool :=
  if k = 1 then regX o c r v else if k = 2 then decide (lastC a o.cells = (v : Int)) else if k = 3 then fltX o c v else if k = 7 then true else argsB k bs
mutual
def holdsT (o : OU) : CT → Bool
  | .mk k c r a v args => holdsX o k c r a v (holdsL o args)
def holdsL (o : OU) : List CT → List Bool
  | [] => []
  | t :: ts => holdsT o t :: holdsL o ts
end
theorem reg_in (o : OU) (ci ri v : Nat) (hc : ci < o.regs.length) (hr : ri < (o.regs[ci]).length) : regX o ci ri v = decide ((o.regs[ci])[ri] = (v : Int)) := by
  unfold regX
  simp [List.getD_eq_getElem?_getD, hc, hr]
theorem reg_out (o : OU) (ci : Nat) (r : Int) (v : Nat) (hc : ci < o.regs.length) (hr : ¬ r < (o.regs[ci]).length) : regX o ci r v = false := by
  unfold regX
  simp only [Int.toNat_natCast, List.getD_eq_getElem?_getD, List.getElem?_eq_getElem hc, Option.getD_some, decide_eq_false hr]
  simp
theorem flt_in (o : OU) (ci v : Nat) (hc : ci < o.faults.length) : fltX o ci v = decide (o.faults[ci] = v) := by
  unfold fltX
  simp [List.getD_eq_getElem?_getD, hc]
theorem OutAt.drew {w : World} {o : OU} {cs : List Value} (h : OutAt w o cs) : OutAt w.drew o cs := h.below (Below.refl _ _).drew
set_option maxRecDepth 100000 in
set_option maxHeartbeats 6400000 in
theorem holds_any (o : OU) : ∀ (t : CT) (w : World) (S : Nat → Prop) (cs os : List Value), CT.At w S t cs → OutAt w o os →
    Calls Try.prog 19 #[.agg cs.toArray, .agg os.toArray] w fun e w' => e = .returned (.bool (holdsT o t)) ∧ Below w.heap.size w w' := by
  intro t
  refine CT.ind (P := fun t => ∀ (w : World) (S : Nat → Prop) (cs os : List Value), CT.At w S t cs → OutAt w o os → Calls Try.prog 19 #[.agg cs.toArray, .agg os.toArray] w fun e w' => e = .returned (.bool (holdsT o t)) ∧ Below w.heap.size w w') ?_ t
  intro k c r a v args IH w S cs os ht ho
  obtain ⟨p, cap, rfl, h1, h2, h3, h4, h5⟩ := ht.own
  have HO := Lib.hid ho
  obtain ⟨p1, c1, p2, c2, p3, c3, rfl, hbd, q1, q2, q3⟩ := ho
  obtain ⟨hbd1, hbd2, hbd3⟩ := hbd
  have HI := Lib.hid IH
  have HV := Lib.hid (show holdsT o (.mk k c r a v args) = holdsX o k c r a v (holdsL o args) from rfl)
  generalize holdsT o (.mk k c r a v args) = R at *
  generalize hlen : args.length = ln at *
  obtain ⟨N1, hN1⟩ : ∃ N, o.regs.length = N := ⟨_, rfl⟩
  obtain ⟨N2, hN2⟩ : ∃ N, o.faults.length = N := ⟨_, rfl⟩
  obtain ⟨N3, hN3⟩ : ∃ N, o.cells.length = N := ⟨_, rfl⟩
  rw [hN1, hN2, hN3] at HO ⊢
  rw [hN1] at hbd1
  rw [hN2] at hbd2
  rw [hN3] at hbd3
  have hB0 := below_alloc (below_alloc (Below.refl w.heap.size w) (.cells #[.int .i64 k, .int .i64 c, .int .i64 r, .int .u64 (a : Nat), .int .u64 (v : Nat), .slice p ln cap] 25)) (.cells #[.slice p1 N1 c1, .slice p2 N2 c2, .slice p3 N3 c3] 48)
  have HB := Lib.hid hB0
  have HN := Lib.hid ((own_box w #[.int .i64 k, .int .i64 c, .int .i64 r, .int .u64 (a : Nat), .int .u64 (v : Nat), .slice p ln cap]).alloc (.cells #[.slice p1 N1 c1, .slice p2 N2 c2, .slice p3 N3 c3] 48))
  have HM := Lib.hid (show Blk ((w.alloc (.cells #[.int .i64 k, .int .i64 c, .int .i64 r, .int .u64 (a : Nat), .int .u64 (v : Nat), .slice p ln cap] 25)).alloc (.cells #[.slice p1 N1 c1, .slice p2 N2 c2, .slice p3 N3 c3] 48)) 48 (w.heap.size + 1) [.slice p1 N1 c1, .slice p2 N2 c2, .slice p3 N3 c3] from by simpa using Blk.new (w.alloc (.cells #[.int .i64 k, .int .i64 c, .int .i64 r, .int .u64 (a : Nat), .int .u64 (v : Nat), .slice p ln cap] 25)) 48 [.slice p1 N1 c1, .slice p2 N2 c2, .slice p3 N3 c3])
  have HR := Lib.hid (h5.below hB0)
  have HO2 := Lib.hid (HO.out.below hB0)
  have hcap : cap ≤ 9223372036854775807 := by unfold maxLen at h2; omega
  obtain ⟨hv, hkI, hcI, hrI⟩ := h4
  have HLEN := Lib.hid hlen
  have HK := Lib.hid (fun (x : Addr) (u : Value) (h : w.cell? x = some u) => (hB0.cell (World.block_lt_of_cell? w x h)).trans h)
  have HQ1 := Lib.hid q1
  have HQ2 := Lib.hid q2
  have HQ3 := Lib.hid q3
  clear ht IH h5 hlen HO hB0 q1 q2 q3
  obtain ⟨n0, n1, n2, n3, n4, n5⟩ := blk_cells6' HN.out
  have m0 := HM.out.cell 0
  have m1 := HM.out.cell 1
  have m2 := HM.out.cell 2
  simp only [List.getElem?_cons_zero, List.getElem?_cons_succ] at m0 m1 m2
  have lens : ∀ x : Nat, ¬ ln = x → ¬ (ln : Int) = x ∧ ((ln : Int) == x) = false := fun x h => ⟨by omega, by rw [beq_eq_false_iff_ne]; omega⟩
  by_cases k1 : k = 1
  · subst k1
    have HV := Lib.hid (show R = regX o c r v from by rw [HV.out]; rfl)
    by_cases c0 : 0 ≤ c
    · obtain ⟨ci, rfl⟩ := Int.eq_ofNat_of_zero_le c0
      by_cases cl : ci < N1
      · have cli : (ci : Int) < N1 := by omega
        obtain ⟨g, off, q, cp, rfl, d0, hrl, hrow⟩ := HQ1.out ci (by rw [hN1]; exact cl)
        have d0 := HK.out _ _ d0
        have HRO := Lib.hid (fun hr => reg_out o ci r v (by rw [hN1]; exact cl) hr)
        have HRI := Lib.hid (fun ri hr => reg_in o ci ri v (by rw [hN1]; exact cl) hr)
        generalize o.regs[ci] = row at *
        obtain ⟨RL, hRL⟩ : ∃ N, row.length = N := ⟨_, rfl⟩
        rw [hRL] at d0 hrl
        by_cases r0 : 0 ≤ r
        · obtain ⟨ri, rfl⟩ := Int.eq_ofNat_of_zero_le r0
          by_cases rl : ri < RL
          · have rli : (ri : Int) < RL := by omega
            obtain ⟨g2, off2, rfl, d1⟩ := hrow ri (by rw [hRL]; exact rl)
            have d1 := HK.out _ _ d1
            have HX := Lib.hid (HRI.out ri (by rw [hRL]; exact rl))
            generalize row[ri] = x at *
            clear hrow HRI HRO
            by_cases hx : x = (v : Int)
            · have HX := HX.out.trans (decide_eq_true hx)
              clear HI HR HO2 HQ1 HQ2 HQ3 HK lens
              subst hx
              go_enter Try.func19, Try.ntmps19
              go_wp2_with fail
              go_quiet (fail)
              go_wp2_with fail
              go_ret
              exact ⟨by rw [HV.out, HX]; first | rfl | simp, below_drewN HB.out _⟩
            have hxb : (x == (v : Int)) = false := by rw [beq_eq_false_iff_ne]; exact hx
            have HX := HX.out.trans (decide_eq_false hx)
            clear HI HR HO2 HQ1 HQ2 HQ3 HK lens
            go_enter Try.func19, Try.ntmps19
            go_wp2_with fail
            go_quiet (fail)
            go_wp2_with fail
            go_ret
            exact ⟨by rw [HV.out, HX]; first | rfl | simp [hx], below_drewN HB.out _⟩
          · have rli : ¬ (ri : Int) < RL := by omega
            have rld : decide ((ri : Int) < RL) = false := decide_eq_false rli
            have HX := HRO.out (by rw [hRL]; exact rli)
            clear hrow HRI HRO
            clear HI HR HO2 HQ1 HQ2 HQ3 HK lens
            go_enter Try.func19, Try.ntmps19
            go_wp2_with fail
            go_quiet (fail)
            go_wp2_with fail
            go_ret
            exact ⟨by rw [HV.out, HX]; first | rfl | simp, below_drewN HB.out _⟩
        · have rld : decide ((0 : Int) ≤ r) = false := decide_eq_false r0
          have HX := (show regX o ci r v = false from by unfold regX; rw [rld]; simp)
          clear hrow HRI HRO
          clear HI HR HO2 HQ1 HQ2 HQ3 HK lens
          go_enter Try.func19, Try.ntmps19
          go_wp2_with fail
          go_quiet (fail)
          go_wp2_with fail
          go_ret
          exact ⟨by rw [HV.out, HX]; first | rfl | simp, below_drewN HB.out _⟩
      · have cli : ¬ (ci : Int) < N1 := by omega
        have cld : decide ((ci : Int) < N1) = false := decide_eq_false cli
        have HX := (show regX o ci r v = false from by unfold regX; rw [hN1, cld]; simp)
        clear HI HR HO2 HQ1 HQ2 HQ3 HK lens
        go_enter Try.func19, Try.ntmps19
        go_wp2_with fail
        go_quiet (fail)
        go_wp2_with fail
        go_ret
        exact ⟨by rw [HV.out, HX]; first | rfl | simp, below_drewN HB.out _⟩
    · have cld : decide ((0 : Int) ≤ c) = false := decide_eq_false c0
      have HX := (show regX o c r v = false from by unfold regX; rw [cld]; rfl)
      clear HI HR HO2 HQ1 HQ2 HQ3 HK lens
      go_enter Try.func19, Try.ntmps19
      go_wp2_with fail
      go_quiet (fail)
      go_wp2_with fail
      go_ret
      exact ⟨by rw [HV.out, HX]; first | rfl | simp, below_drewN HB.out _⟩
  have e1 : (k == 1) = false := by rw [beq_eq_false_iff_ne]; exact k1
  by_cases k2 : k = 2
  · subst k2
    have HV := Lib.hid (show R = decide (lastC a o.cells = (v : Int)) from by rw [HV.out]; rfl)
    clear HI HR HQ1 HQ2 lens
    go_enter Try.func19, Try.ntmps19
    generalize hW1 : (w.alloc (.cells #[.int .i64 2, .int .i64 c, .int .i64 r, .int .u64 (a : Nat), .int .u64 (v : Nat), .slice p ln cap] 25)).alloc (.cells #[.slice p1 N1 c1, .slice p2 N2 c2, .slice p3 N3 c3] 48) = w1 at *
    have hsz : w.heap.size + 1 < w1.heap.size := by rw [← hW1]; first | (simp; done) | (simp; omega)
    have HW1 := Lib.hid hW1
    clear hW1
    go_wp2_with fail
    go_loopw [5, 60] (fun s i wr => ∃ j : Nat, j ≤ N3 ∧ s = .int .u64 (lastC a (o.cells.take j)) ∧ i = .int .i64 j ∧ Below w1.heap.size w1 wr) (fun _ i _ => N3 - (intOf i).toNat)
    case atStart => exact ⟨0, by omega, rfl, rfl, by rw [HW1.out]; exact Below.refl _ _⟩
    case round =>
      obtain ⟨j, hj, rfl, rfl, hb⟩ := hrel
      have HBR := Lib.hid hb
      have n3r := cell_below n3 hb
      have n4r := cell_below n4 hb
      clear hb
      by_cases hjl : j < N3
      · have hj0 : (0 : Int) ≤ j := by omega
        have hjn : (j : Int) < N3 := by omega
        have hja : j < o.cells.length := by rw [hN3]; exact hjl
        obtain ⟨g, off, rfl, d0, d1⟩ := HQ3.out j hja
        have d0 := cell_below (HK.out _ _ d0) HBR.out
        have d1 := cell_below (HK.out _ _ d1) HBR.out
        have HT := Lib.hid (lastC_take a o.cells j hja)
        generalize o.cells[j] = x at *
        obtain ⟨x1, x2⟩ := x
        simp only at d0 d1 HT
        have HBA := Lib.hid (below_alloc HBR.out (.cells #[.int .u64 x1, .int .u64 x2] 74))
        have hszr : w.heap.size + 1 < wr.heap.size := by have := HBR.out.size; omega
        have hszr2 : w.heap.size < wr.heap.size := by omega
        by_cases hx : x1 = (a : Int)
        · rw [if_pos hx] at HT
          subst hx
          go_wp2_with fail
          go_roundw
          case rel => exact ⟨j + 1, by omega, by rw [HT.out], by go_num, HBR.out.alloc HBR.out.size _⟩
          case measure => first | (simp [intOf]; done) | (simp [intOf]; omega)
        · rw [if_neg hx] at HT
          have hxb : (x1 == (a : Int)) = false := by rw [beq_eq_false_iff_ne]; exact hx
          go_wp2_with fail
          go_roundw
          case rel => exact ⟨j + 1, by omega, by rw [HT.out], by go_num, HBR.out.alloc HBR.out.size _⟩
          case measure => first | (simp [intOf]; done) | (simp [intOf]; omega)
      · obtain rfl : j = N3 := by omega
        have HF := Lib.hid (show lastC a (o.cells.take j) = lastC a o.cells from by rw [← hN3, List.take_length])
        rw [HF.out]
        generalize lastC a o.cells = X at *
        by_cases hx : X = (v : Int)
        · have HX := HV.out.trans (decide_eq_true hx)
          subst hx
          go_wp2_with fail
          go_ret
          exact ⟨by first | rfl | (rw [HX]; rfl) | simp [HX], below_trans HB.out HBR.out⟩
        · have HX := HV.out.trans (decide_eq_false hx)
          have hxb : (X == (v : Int)) = false := by rw [beq_eq_false_iff_ne]; exact hx
          go_wp2_with fail
          go_ret
          exact ⟨by first | rfl | (rw [HX]; rfl) | simp [HX, hx], below_trans HB.out HBR.out⟩
  have e2 : (k == 2) = false := by rw [beq_eq_false_iff_ne]; exact k2
  by_cases k3 : k = 3
  · subst k3
    have HV := Lib.hid (show R = fltX o c v from by rw [HV.out]; rfl)
    by_cases c0 : 0 ≤ c
    · obtain ⟨ci, rfl⟩ := Int.eq_ofNat_of_zero_le c0
      by_cases cl : ci < N2
      · have cli : (ci : Int) < N2 := by omega
        obtain ⟨g, off, q, cp, rfl, d0, hrl⟩ := HQ2.out ci (by rw [hN2]; exact cl)
        have d0 := HK.out _ _ d0
        have HX := Lib.hid (flt_in o ci v (by rw [hN2]; exact cl))
        generalize o.faults[ci] = x at *
        have hw : IntKind.u64.wrap (x : Int) = x := by rw [IntKind.wrap_u64]; omega
        by_cases hx : x = v
        · have HX := HX.out.trans (decide_eq_true hx)
          clear HI HR HO2 HQ1 HQ2 HQ3 HK lens
          subst hx
          go_enter Try.func19, Try.ntmps19
          go_wp2_with fail
          go_quiet (fail)
          go_wp2_with fail
          go_ret
          exact ⟨by rw [HV.out, HX]; first | rfl | simp, below_drewN HB.out _⟩
        have hxi : ¬ (x : Int) = (v : Int) := by omega
        have hxb : ((x : Int) == (v : Int)) = false := by rw [beq_eq_false_iff_ne]; exact hxi
        have HX := HX.out.trans (decide_eq_false hx)
        clear HI HR HO2 HQ1 HQ2 HQ3 HK lens
        go_enter Try.func19, Try.ntmps19
        go_wp2_with fail
        go_quiet (fail)
        go_wp2_with fail
        go_ret
        exact ⟨by rw [HV.out, HX]; first | rfl | simp [hx], below_drewN HB.out _⟩
      · have cli : ¬ (ci : Int) < N2 := by omega
        have cld : decide ((ci : Int) < N2) = false := decide_eq_false cli
        have HX := (show fltX o ci v = false from by unfold fltX; rw [hN2, cld]; simp)
        clear HI HR HO2 HQ1 HQ2 HQ3 HK lens
        go_enter Try.func19, Try.ntmps19
        go_wp2_with fail
        go_quiet (fail)
        go_wp2_with fail
        go_ret
        exact ⟨by rw [HV.out, HX]; first | rfl | simp, below_drewN HB.out _⟩
    · have cld : decide ((0 : Int) ≤ c) = false := decide_eq_false c0
      have HX := (show fltX o c v = false from by unfold fltX; rw [cld]; rfl)
      clear HI HR HO2 HQ1 HQ2 HQ3 HK lens
      go_enter Try.func19, Try.ntmps19
      go_wp2_with fail
      go_quiet (fail)
      go_wp2_with fail
      go_ret
      exact ⟨by rw [HV.out, HX]; first | rfl | simp, below_drewN HB.out _⟩
  have e3 : (k == 3) = false := by rw [beq_eq_false_iff_ne]; exact k3
  by_cases k7 : k = 7
  · subst k7
    have HV := Lib.hid (show R = true from by rw [HV.out]; rfl)
    clear HI HR HO2 HQ1 HQ2 HQ3 HK lens
    go_enter Try.func19, Try.ntmps19
    go_wp2_with fail
    go_ret
    exact ⟨by rw [HV.out]; rfl, HB.out⟩
  have e7 : (k == 7) = false := by rw [beq_eq_false_iff_ne]; exact k7
  have HV := Lib.hid (show R = argsB k (holdsL o args) from by rw [HV.out]; unfold holdsX; rw [if_neg k1, if_neg k2, if_neg k3, if_neg k7])
  clear HQ1 HQ2 HQ3 HK
  by_cases h6 : k = 6 ∧ ln = 1
  · obtain ⟨rfl, rfl⟩ := h6
    obtain ⟨u, rfl⟩ := List.length_eq_one_iff.1 HLEN.out
    have hpart := HR.out.part (j := 0) (by simp)
    simp only [List.getElem_cons_zero, Nat.zero_mul, Nat.add_zero] at hpart
    obtain ⟨g, off, k', co', rg', ad', va', q', l', cp', rfl, d0, d1, d2, d3, d4, d5, hu⟩ := hpart
    have HC := Lib.hid (HI.out u (by simp) _ S _ _ (CT.At.drew hu) (OutAt.drew HO2.out))
    have HV2 := Lib.hid (show R = !holdsT o u from by rw [HV.out]; rfl)
    clear hu lens HI HV
    generalize holdsT o u = X at *
    go_enter Try.func19, Try.ntmps19
    go_wp2_with fail
    refine wp_region_held_drew (S := (fun w' => w'.cell? ⟨w.heap.size, 5, none⟩ = some (.slice (some ⟨g, off, none⟩) 1 cap) ∧ w'.cell? ⟨w.heap.size + 1, 0, none⟩ = some (.slice p1 N1 c1) ∧ w'.cell? ⟨w.heap.size + 1, 1, none⟩ = some (.slice p2 N2 c2) ∧ w'.cell? ⟨w.heap.size + 1, 2, none⟩ = some (.slice p3 N3 c3) ∧ w'.cell? ⟨g, off, none⟩ = some (.int .i64 k') ∧ w'.cell? ⟨g, off + 1, none⟩ = some (.int .i64 co') ∧ w'.cell? ⟨g, off + 2, none⟩ = some (.int .i64 rg') ∧ w'.cell? ⟨g, off + 3, none⟩ = some (.int .u64 ad') ∧ w'.cell? ⟨g, off + 4, none⟩ = some (.int .u64 va') ∧ w'.cell? ⟨g, off + 5, none⟩ = some (.slice q' l' cp'))) (by kernel_rfl) (by (try dsimp only); exact ⟨n5, m0, m1, m2, d0, d1, d2, d3, d4, d5⟩) (fun hHeld => ?_)
    refine wpAnyH_take (i := 0) (oi := ⟨some 106, _, _, _, _, _⟩) (v := ?_) rfl (by kernel_rfl) (by kernel_rfl) (by kernel_rfl) (fun _ _ _ h => h) (Or.inl ⟨by rfl, ?_⟩) (by assumption) ?_
    rotate_left
    · (intro w hSw; (try dsimp only at hSw); go_simp; try with_reducible rfl)
    simp only [Act.put, List.setIfInBounds_toArray, List.set_cons_zero, List.set_cons_succ]
    refine wpAnyH_take (i := 1) (oi := ⟨some 107, _, _, _, _, _⟩) (v := ?_) rfl (by kernel_rfl) (by kernel_rfl) (by kernel_rfl) (fun _ _ _ h => h) (Or.inl ⟨by rfl, ?_⟩) (by assumption) ?_
    rotate_left
    · (intro w hSw; (try dsimp only at hSw); go_simp; try with_reducible rfl)
    simp only [Act.put, List.setIfInBounds_toArray, List.set_cons_zero, List.set_cons_succ]
    refine wpAnyH_take (i := 2) (oi := ⟨some 108, _, _, _, _, _⟩) (v := ?_) rfl (by kernel_rfl) (by kernel_rfl) (by kernel_rfl) (fun _ _ _ h => h) (Or.inl ⟨by rfl, ?_⟩) (by assumption) ?_
    rotate_left
    · (intro w hSw; (try dsimp only at hSw); go_simp; try with_reducible rfl)
    simp only [Act.put, List.setIfInBounds_toArray, List.set_cons_zero, List.set_cons_succ]
    refine wpAnyH_take (i := 3) (oi := ⟨some 109, _, _, _, _, _⟩) (v := ?_) rfl (by kernel_rfl) (by kernel_rfl) (by kernel_rfl) (fun _ _ _ h => h) (Or.inl ⟨by rfl, ?_⟩) (by assumption) ?_
    rotate_left
    · (intro w hSw; (try dsimp only at hSw); go_simp; try with_reducible rfl)
    simp only [Act.put, List.setIfInBounds_toArray, List.set_cons_zero, List.set_cons_succ]
    refine wpAnyH_take (i := 4) (oi := ⟨some 110, _, _, _, _, _⟩) (v := ?_) rfl (by kernel_rfl) (by kernel_rfl) (by kernel_rfl) (fun _ _ _ h => h) (Or.inl ⟨by rfl, ?_⟩) (by assumption) ?_
    rotate_left
    · (intro w hSw; (try dsimp only at hSw); go_simp; try with_reducible rfl)
    simp only [Act.put, List.setIfInBounds_toArray, List.set_cons_zero, List.set_cons_succ]
    refine wpAnyH_take (i := 5) (oi := ⟨some 111, _, _, _, _, _⟩) (v := ?_) rfl (by kernel_rfl) (by kernel_rfl) (by kernel_rfl) (fun _ _ _ h => h) (Or.inl ⟨by rfl, ?_⟩) (by assumption) ?_
    rotate_left
    · (intro w hSw; (try dsimp only at hSw); go_simp; try with_reducible rfl)
    simp only [Act.put, List.setIfInBounds_toArray, List.set_cons_zero, List.set_cons_succ]
    refine wpAnyH_take (i := 6) (oi := ⟨some 112, _, _, _, _, _⟩) (v := ?_) rfl (by kernel_rfl) (by kernel_rfl) (by kernel_rfl) (fun _ _ _ h => h) (Or.inl ⟨by rfl, ?_⟩) (by assumption) ?_
    rotate_left
    · (intro w hSw; (try dsimp only at hSw); go_simp; try with_reducible rfl)
    simp only [Act.put, List.setIfInBounds_toArray, List.set_cons_zero, List.set_cons_succ]
    refine wpAnyH_take (i := 7) (oi := ⟨some 113, _, _, _, _, _⟩) (v := ?_) rfl (by kernel_rfl) (by kernel_rfl) (by kernel_rfl) (fun _ _ _ h => h) (Or.inl ⟨by rfl, ?_⟩) (by assumption) ?_
    rotate_left
    · (intro w hSw; (try dsimp only at hSw); go_simp; try with_reducible rfl)
    simp only [Act.put, List.setIfInBounds_toArray, List.set_cons_zero, List.set_cons_succ]
    refine wpAnyH_take (i := 8) (oi := ⟨some 114, _, _, _, _, _⟩) (v := ?_) rfl (by kernel_rfl) (by kernel_rfl) (by kernel_rfl) (fun _ _ _ h => h) (Or.inl ⟨by rfl, ?_⟩) (by assumption) ?_
    rotate_left
    · (intro w hSw; (try dsimp only at hSw); go_simp; try with_reducible rfl)
    simp only [Act.put, List.setIfInBounds_toArray, List.set_cons_zero, List.set_cons_succ]
    refine wpAnyH_take (i := 9) (oi := ⟨some 115, _, _, _, _, _⟩) (v := ?_) rfl (by kernel_rfl) (by kernel_rfl) (by kernel_rfl) (fun _ _ _ h => h) (Or.inl ⟨by rfl, ?_⟩) (by assumption) ?_
    rotate_left
    · (intro w hSw; (try dsimp only at hSw); go_simp; try with_reducible rfl)
    simp only [Act.put, List.setIfInBounds_toArray, List.set_cons_zero, List.set_cons_succ]
    refine wpAnyH_ready (rs := [10]) (by kernel_rfl) (by simp) ?_
    refine AllReadyH.cons (o := ⟨some 116, _, _, _, _, _⟩) rfl (fun K hK => ?_) AllReadyH.nil
    go_simp
    go_at_call 19; refine (HC.out).mono ?_; rintro e w3 ⟨rfl, hb⟩; have HB3 := Lib.hid (below_trans HB.out.drew hb); have n5 := cell_below_drew n5 hb; have m0 := cell_below_drew m0 hb; have m1 := cell_below_drew m1 hb; have m2 := cell_below_drew m2 hb; have d0 := cell_below_drew d0 hb; have d1 := cell_below_drew d1 hb; have d2 := cell_below_drew d2 hb; have d3 := cell_below_drew d3 hb; have d4 := cell_below_drew d4 hb; have d5 := cell_below_drew d5 hb; clear hb
    refine hK.out _ _ (by (try dsimp only); exact ⟨n5, m0, m1, m2, d0, d1, d2, d3, d4, d5⟩) ?_
    clear hK K hHeld
    intro hHeld
    try simp only [Act.put, List.setIfInBounds_toArray, List.set_cons_zero, List.set_cons_succ]
    refine wpAnyH_take (i := 11) (oi := ⟨some 117, _, _, _, _, _⟩) (v := ?_) rfl (by kernel_rfl) (by kernel_rfl) (by kernel_rfl) (fun _ _ _ h => h) (Or.inl ⟨by rfl, ?_⟩) (by assumption) ?_
    rotate_left
    · (intro w hSw; (try dsimp only at hSw); go_simp; try with_reducible rfl)
    simp only [Act.put, List.setIfInBounds_toArray, List.set_cons_zero, List.set_cons_succ]
    refine wpAnyH_take (i := 12) (oi := ⟨some 118, _, _, _, _, _⟩) (v := ?_) rfl (by kernel_rfl) (by kernel_rfl) (by kernel_rfl) (fun _ _ _ h => h) (Or.inl ⟨by rfl, ?_⟩) (by assumption) ?_
    rotate_left
    · (intro w hSw; (try dsimp only at hSw); go_simp; try with_reducible rfl)
    simp only [Act.put, List.setIfInBounds_toArray, List.set_cons_zero, List.set_cons_succ]
    refine wpAnyH_take (i := 13) (oi := ⟨some 4, _, _, _, _, _⟩) (v := ?_) rfl (by kernel_rfl) (by kernel_rfl) (by kernel_rfl) (fun _ _ _ h => h) (Or.inl ⟨by rfl, ?_⟩) (by assumption) ?_
    rotate_left
    · (intro w hSw; (try dsimp only at hSw); go_simp; try with_reducible rfl)
    simp only [Act.put, List.setIfInBounds_toArray, List.set_cons_zero, List.set_cons_succ]
    refine wpAnyH_done (by kernel_rfl) ?_ _
    go_wp2_with fail
    go_ret
    exact ⟨by rw [HV2.out]; rfl, HB3.out⟩
  by_cases h4 : k = 4 ∧ ln = 2
  · obtain ⟨rfl, rfl⟩ := h4
    obtain ⟨u, t, rfl⟩ := list2o HLEN.out
    have hpart := HR.out.part (j := 0) (by simp)
    simp only [List.getElem_cons_zero, Nat.zero_mul, Nat.add_zero] at hpart
    obtain ⟨g, off, k', co', rg', ad', va', q', l', cp', rfl, d0, d1, d2, d3, d4, d5, hu⟩ := hpart
    have hpart := HR.out.part (j := 1) (by simp)
    simp only [List.getElem_cons_zero, List.getElem_cons_succ, Nat.one_mul] at hpart
    obtain ⟨g2, off2, j0, j1, j2, j3, j4, jp, jl, jc, hgo, f0, f1, f2, f3, f4, f5, ht⟩ := hpart
    injection hgo with hgo
    injection hgo with hg1 hg2
    subst hg1 hg2
    have HC := Lib.hid (HI.out u (by simp) _ S _ _ (CT.At.drew hu) (OutAt.drew HO2.out))
    have HD := Lib.hid (HI.out t (by simp))
    have HT := Lib.hid ht
    have HV2 := Lib.hid (show R = (holdsT o u && holdsT o t) from by rw [HV.out]; rfl)
    clear hu ht lens HI HV
    generalize holdsT o u = X at *
    generalize holdsT o t = Y at *
    cases X
    · skip
      go_enter Try.func19, Try.ntmps19
      go_wp2_with fail
      refine wp_region_held_drew (S := (fun w' => w'.cell? ⟨w.heap.size, 5, none⟩ = some (.slice (some ⟨g, off, none⟩) 2 cap) ∧ w'.cell? ⟨w.heap.size + 1, 0, none⟩ = some (.slice p1 N1 c1) ∧ w'.cell? ⟨w.heap.size + 1, 1, none⟩ = some (.slice p2 N2 c2) ∧ w'.cell? ⟨w.heap.size + 1, 2, none⟩ = some (.slice p3 N3 c3) ∧ w'.cell? ⟨g, off, none⟩ = some (.int .i64 k') ∧ w'.cell? ⟨g, off + 1, none⟩ = some (.int .i64 co') ∧ w'.cell? ⟨g, off + 2, none⟩ = some (.int .i64 rg') ∧ w'.cell? ⟨g, off + 3, none⟩ = some (.int .u64 ad') ∧ w'.cell? ⟨g, off + 4, none⟩ = some (.int .u64 va') ∧ w'.cell? ⟨g, off + 5, none⟩ = some (.slice q' l' cp') ∧ w'.cell? ⟨g, off + 6, none⟩ = some (.int .i64 j0) ∧ w'.cell? ⟨g, off + 6 + 1, none⟩ = some (.int .i64 j1) ∧ w'.cell? ⟨g, off + 6 + 2, none⟩ = some (.int .i64 j2) ∧ w'.cell? ⟨g, off + 6 + 3, none⟩ = some (.int .u64 j3) ∧ w'.cell? ⟨g, off + 6 + 4, none⟩ = some (.int .u64 j4) ∧ w'.cell? ⟨g, off + 6 + 5, none⟩ = some (.slice jp jl jc))) (by kernel_rfl) (by (try dsimp only); exact ⟨n5, m0, m1, m2, d0, d1, d2, d3, d4, d5, f0, f1, f2, f3, f4, f5⟩) (fun hHeld => ?_)
      refine wpAnyH_take (i := 0) (oi := ⟨some 121, _, _, _, _, _⟩) (v := ?_) rfl (by kernel_rfl) (by kernel_rfl) (by kernel_rfl) (fun _ _ _ h => h) (Or.inl ⟨by rfl, ?_⟩) (by assumption) ?_
      rotate_left
      · (intro w hSw; (try dsimp only at hSw); go_simp; try with_reducible rfl)
      simp only [Act.put, List.setIfInBounds_toArray, List.set_cons_zero, List.set_cons_succ]
      refine wpAnyH_take (i := 1) (oi := ⟨some 122, _, _, _, _, _⟩) (v := ?_) rfl (by kernel_rfl) (by kernel_rfl) (by kernel_rfl) (fun _ _ _ h => h) (Or.inl ⟨by rfl, ?_⟩) (by assumption) ?_
      rotate_left
      · (intro w hSw; (try dsimp only at hSw); go_simp; try with_reducible rfl)
      simp only [Act.put, List.setIfInBounds_toArray, List.set_cons_zero, List.set_cons_succ]
      refine wpAnyH_take (i := 2) (oi := ⟨some 123, _, _, _, _, _⟩) (v := ?_) rfl (by kernel_rfl) (by kernel_rfl) (by kernel_rfl) (fun _ _ _ h => h) (Or.inl ⟨by rfl, ?_⟩) (by assumption) ?_
      rotate_left
      · (intro w hSw; (try dsimp only at hSw); go_simp; try with_reducible rfl)
      simp only [Act.put, List.setIfInBounds_toArray, List.set_cons_zero, List.set_cons_succ]
      refine wpAnyH_take (i := 3) (oi := ⟨some 124, _, _, _, _, _⟩) (v := ?_) rfl (by kernel_rfl) (by kernel_rfl) (by kernel_rfl) (fun _ _ _ h => h) (Or.inl ⟨by rfl, ?_⟩) (by assumption) ?_
      rotate_left
      · (intro w hSw; (try dsimp only at hSw); go_simp; try with_reducible rfl)
      simp only [Act.put, List.setIfInBounds_toArray, List.set_cons_zero, List.set_cons_succ]
      refine wpAnyH_take (i := 4) (oi := ⟨some 125, _, _, _, _, _⟩) (v := ?_) rfl (by kernel_rfl) (by kernel_rfl) (by kernel_rfl) (fun _ _ _ h => h) (Or.inl ⟨by rfl, ?_⟩) (by assumption) ?_
      rotate_left
      · (intro w hSw; (try dsimp only at hSw); go_simp; try with_reducible rfl)
      simp only [Act.put, List.setIfInBounds_toArray, List.set_cons_zero, List.set_cons_succ]
      refine wpAnyH_take (i := 5) (oi := ⟨some 126, _, _, _, _, _⟩) (v := ?_) rfl (by kernel_rfl) (by kernel_rfl) (by kernel_rfl) (fun _ _ _ h => h) (Or.inl ⟨by rfl, ?_⟩) (by assumption) ?_
      rotate_left
      · (intro w hSw; (try dsimp only at hSw); go_simp; try with_reducible rfl)
      simp only [Act.put, List.setIfInBounds_toArray, List.set_cons_zero, List.set_cons_succ]
      refine wpAnyH_take (i := 6) (oi := ⟨some 127, _, _, _, _, _⟩) (v := ?_) rfl (by kernel_rfl) (by kernel_rfl) (by kernel_rfl) (fun _ _ _ h => h) (Or.inl ⟨by rfl, ?_⟩) (by assumption) ?_
      rotate_left
      · (intro w hSw; (try dsimp only at hSw); go_simp; try with_reducible rfl)
      simp only [Act.put, List.setIfInBounds_toArray, List.set_cons_zero, List.set_cons_succ]
      refine wpAnyH_take (i := 7) (oi := ⟨some 128, _, _, _, _, _⟩) (v := ?_) rfl (by kernel_rfl) (by kernel_rfl) (by kernel_rfl) (fun _ _ _ h => h) (Or.inl ⟨by rfl, ?_⟩) (by assumption) ?_
      rotate_left
      · (intro w hSw; (try dsimp only at hSw); go_simp; try with_reducible rfl)
      simp only [Act.put, List.setIfInBounds_toArray, List.set_cons_zero, List.set_cons_succ]
      refine wpAnyH_take (i := 8) (oi := ⟨some 129, _, _, _, _, _⟩) (v := ?_) rfl (by kernel_rfl) (by kernel_rfl) (by kernel_rfl) (fun _ _ _ h => h) (Or.inl ⟨by rfl, ?_⟩) (by assumption) ?_
      rotate_left
      · (intro w hSw; (try dsimp only at hSw); go_simp; try with_reducible rfl)
      simp only [Act.put, List.setIfInBounds_toArray, List.set_cons_zero, List.set_cons_succ]
      refine wpAnyH_take (i := 9) (oi := ⟨some 130, _, _, _, _, _⟩) (v := ?_) rfl (by kernel_rfl) (by kernel_rfl) (by kernel_rfl) (fun _ _ _ h => h) (Or.inl ⟨by rfl, ?_⟩) (by assumption) ?_
      rotate_left
      · (intro w hSw; (try dsimp only at hSw); go_simp; try with_reducible rfl)
      simp only [Act.put, List.setIfInBounds_toArray, List.set_cons_zero, List.set_cons_succ]
      refine wpAnyH_ready (rs := [10]) (by kernel_rfl) (by simp) ?_
      refine AllReadyH.cons (o := ⟨some 131, _, _, _, _, _⟩) rfl (fun K hK => ?_) AllReadyH.nil
      go_simp
      go_at_call 19; refine (HC.out).mono ?_; rintro e w3 ⟨rfl, hb⟩; have HB3 := Lib.hid (below_trans HB.out.drew hb); have n5 := cell_below_drew n5 hb; have m0 := cell_below_drew m0 hb; have m1 := cell_below_drew m1 hb; have m2 := cell_below_drew m2 hb; have d0 := cell_below_drew d0 hb; have d1 := cell_below_drew d1 hb; have d2 := cell_below_drew d2 hb; have d3 := cell_below_drew d3 hb; have d4 := cell_below_drew d4 hb; have d5 := cell_below_drew d5 hb; have f0 := cell_below_drew f0 hb; have f1 := cell_below_drew f1 hb; have f2 := cell_below_drew f2 hb; have f3 := cell_below_drew f3 hb; have f4 := cell_below_drew f4 hb; have f5 := cell_below_drew f5 hb; clear hb
      refine hK.out _ _ (by (try dsimp only); exact ⟨n5, m0, m1, m2, d0, d1, d2, d3, d4, d5, f0, f1, f2, f3, f4, f5⟩) ?_
      clear hK K hHeld
      intro hHeld
      try simp only [Act.put, List.setIfInBounds_toArray, List.set_cons_zero, List.set_cons_succ]
      refine wpAnyH_take (i := 11) (oi := ⟨some 132, _, _, _, _, _⟩) (v := ?_) rfl (by kernel_rfl) (by kernel_rfl) (by kernel_rfl) (fun _ _ _ h => h) (Or.inl ⟨by rfl, ?_⟩) (by assumption) ?_
      rotate_left
      · (intro w hSw; (try dsimp only at hSw); go_simp; try with_reducible rfl)
      simp only [Act.put, List.setIfInBounds_toArray, List.set_cons_zero, List.set_cons_succ]
      refine wpAnyH_take (i := 12) (oi := ⟨some 133, _, _, _, _, _⟩) (v := ?_) rfl (by kernel_rfl) (by kernel_rfl) (by kernel_rfl) (fun _ _ _ h => h) (Or.inl ⟨by rfl, ?_⟩) (by assumption) ?_
      rotate_left
      · (intro w hSw; (try dsimp only at hSw); go_simp; try with_reducible rfl)
      simp only [Act.put, List.setIfInBounds_toArray, List.set_cons_zero, List.set_cons_succ]
      refine wpAnyH_take (i := 13) (oi := ⟨some 134, _, _, _, _, _⟩) (v := undef) rfl (by kernel_rfl) (by kernel_rfl) (by kernel_rfl) (fun _ _ _ h => h) (Or.inr ⟨by rfl, rfl⟩) (by assumption) ?_
      simp only [Act.put, List.setIfInBounds_toArray, List.set_cons_zero, List.set_cons_succ]
      refine wpAnyH_take (i := 14) (oi := ⟨some 135, _, _, _, _, _⟩) (v := undef) rfl (by kernel_rfl) (by kernel_rfl) (by kernel_rfl) (fun _ _ _ h => h) (Or.inr ⟨by rfl, rfl⟩) (by assumption) ?_
      simp only [Act.put, List.setIfInBounds_toArray, List.set_cons_zero, List.set_cons_succ]
      refine wpAnyH_take (i := 15) (oi := ⟨some 136, _, _, _, _, _⟩) (v := undef) rfl (by kernel_rfl) (by kernel_rfl) (by kernel_rfl) (fun _ _ _ h => h) (Or.inr ⟨by rfl, rfl⟩) (by assumption) ?_
      simp only [Act.put, List.setIfInBounds_toArray, List.set_cons_zero, List.set_cons_succ]
      refine wpAnyH_take (i := 16) (oi := ⟨some 137, _, _, _, _, _⟩) (v := undef) rfl (by kernel_rfl) (by kernel_rfl) (by kernel_rfl) (fun _ _ _ h => h) (Or.inr ⟨by rfl, rfl⟩) (by assumption) ?_
      simp only [Act.put, List.setIfInBounds_toArray, List.set_cons_zero, List.set_cons_succ]
      refine wpAnyH_take (i := 17) (oi := ⟨some 138, _, _, _, _, _⟩) (v := undef) rfl (by kernel_rfl) (by kernel_rfl) (by kernel_rfl) (fun _ _ _ h => h) (Or.inr ⟨by rfl, rfl⟩) (by assumption) ?_
      simp only [Act.put, List.setIfInBounds_toArray, List.set_cons_zero, List.set_cons_succ]
      refine wpAnyH_take (i := 18) (oi := ⟨some 139, _, _, _, _, _⟩) (v := undef) rfl (by kernel_rfl) (by kernel_rfl) (by kernel_rfl) (fun _ _ _ h => h) (Or.inr ⟨by rfl, rfl⟩) (by assumption) ?_
      simp only [Act.put, List.setIfInBounds_toArray, List.set_cons_zero, List.set_cons_succ]
      refine wpAnyH_take (i := 19) (oi := ⟨some 140, _, _, _, _, _⟩) (v := ?_) rfl (by kernel_rfl) (by kernel_rfl) (by kernel_rfl) (fun _ _ _ h => h) (Or.inl ⟨by rfl, ?_⟩) (by assumption) ?_
      rotate_left
      · (intro w hSw; (try dsimp only at hSw); go_simp; try with_reducible rfl)
      simp only [Act.put, List.setIfInBounds_toArray, List.set_cons_zero, List.set_cons_succ]
      refine wpAnyH_take (i := 20) (oi := ⟨some 4, _, _, _, _, _⟩) (v := ?_) rfl (by kernel_rfl) (by kernel_rfl) (by kernel_rfl) (fun _ _ _ h => h) (Or.inl ⟨by rfl, ?_⟩) (by assumption) ?_
      rotate_left
      · (intro w hSw; (try dsimp only at hSw); go_simp; try with_reducible rfl)
      simp only [Act.put, List.setIfInBounds_toArray, List.set_cons_zero, List.set_cons_succ]
      refine wpAnyH_done (by kernel_rfl) ?_ _
      go_wp2_with fail
      go_ret
      exact ⟨by rw [HV2.out]; cases Y <;> rfl, HB3.out⟩
    · skip
      go_enter Try.func19, Try.ntmps19
      go_wp2_with fail
      refine wp_region_held_drew (S := (fun w' => w'.cell? ⟨w.heap.size, 5, none⟩ = some (.slice (some ⟨g, off, none⟩) 2 cap) ∧ w'.cell? ⟨w.heap.size + 1, 0, none⟩ = some (.slice p1 N1 c1) ∧ w'.cell? ⟨w.heap.size + 1, 1, none⟩ = some (.slice p2 N2 c2) ∧ w'.cell? ⟨w.heap.size + 1, 2, none⟩ = some (.slice p3 N3 c3) ∧ w'.cell? ⟨g, off, none⟩ = some (.int .i64 k') ∧ w'.cell? ⟨g, off + 1, none⟩ = some (.int .i64 co') ∧ w'.cell? ⟨g, off + 2, none⟩ = some (.int .i64 rg') ∧ w'.cell? ⟨g, off + 3, none⟩ = some (.int .u64 ad') ∧ w'.cell? ⟨g, off + 4, none⟩ = some (.int .u64 va') ∧ w'.cell? ⟨g, off + 5, none⟩ = some (.slice q' l' cp') ∧ w'.cell? ⟨g, off + 6, none⟩ = some (.int .i64 j0) ∧ w'.cell? ⟨g, off + 6 + 1, none⟩ = some (.int .i64 j1) ∧ w'.cell? ⟨g, off + 6 + 2, none⟩ = some (.int .i64 j2) ∧ w'.cell? ⟨g, off + 6 + 3, none⟩ = some (.int .u64 j3) ∧ w'.cell? ⟨g, off + 6 + 4, none⟩ = some (.int .u64 j4) ∧ w'.cell? ⟨g, off + 6 + 5, none⟩ = some (.slice jp jl jc))) (by kernel_rfl) (by (try dsimp only); exact ⟨n5, m0, m1, m2, d0, d1, d2, d3, d4, d5, f0, f1, f2, f3, f4, f5⟩) (fun hHeld => ?_)
      refine wpAnyH_take (i := 0) (oi := ⟨some 121, _, _, _, _, _⟩) (v := ?_) rfl (by kernel_rfl) (by kernel_rfl) (by kernel_rfl) (fun _ _ _ h => h) (Or.inl ⟨by rfl, ?_⟩) (by assumption) ?_
      rotate_left
      · (intro w hSw; (try dsimp only at hSw); go_simp; try with_reducible rfl)
      simp only [Act.put, List.setIfInBounds_toArray, List.set_cons_zero, List.set_cons_succ]
      refine wpAnyH_take (i := 1) (oi := ⟨some 122, _, _, _, _, _⟩) (v := ?_) rfl (by kernel_rfl) (by kernel_rfl) (by kernel_rfl) (fun _ _ _ h => h) (Or.inl ⟨by rfl, ?_⟩) (by assumption) ?_
      rotate_left
      · (intro w hSw; (try dsimp only at hSw); go_simp; try with_reducible rfl)
      simp only [Act.put, List.setIfInBounds_toArray, List.set_cons_zero, List.set_cons_succ]
      refine wpAnyH_take (i := 2) (oi := ⟨some 123, _, _, _, _, _⟩) (v := ?_) rfl (by kernel_rfl) (by kernel_rfl) (by kernel_rfl) (fun _ _ _ h => h) (Or.inl ⟨by rfl, ?_⟩) (by assumption) ?_
      rotate_left
      · (intro w hSw; (try dsimp only at hSw); go_simp; try with_reducible rfl)
      simp only [Act.put, List.setIfInBounds_toArray, List.set_cons_zero, List.set_cons_succ]
      refine wpAnyH_take (i := 3) (oi := ⟨some 124, _, _, _, _, _⟩) (v := ?_) rfl (by kernel_rfl) (by kernel_rfl) (by kernel_rfl) (fun _ _ _ h => h) (Or.inl ⟨by rfl, ?_⟩) (by assumption) ?_
      rotate_left
      · (intro w hSw; (try dsimp only at hSw); go_simp; try with_reducible rfl)
      simp only [Act.put, List.setIfInBounds_toArray, List.set_cons_zero, List.set_cons_succ]
      refine wpAnyH_take (i := 4) (oi := ⟨some 125, _, _, _, _, _⟩) (v := ?_) rfl (by kernel_rfl) (by kernel_rfl) (by kernel_rfl) (fun _ _ _ h => h) (Or.inl ⟨by rfl, ?_⟩) (by assumption) ?_
      rotate_left
      · (intro w hSw; (try dsimp only at hSw); go_simp; try with_reducible rfl)
      simp only [Act.put, List.setIfInBounds_toArray, List.set_cons_zero, List.set_cons_succ]
      refine wpAnyH_take (i := 5) (oi := ⟨some 126, _, _, _, _, _⟩) (v := ?_) rfl (by kernel_rfl) (by kernel_rfl) (by kernel_rfl) (fun _ _ _ h => h) (Or.inl ⟨by rfl, ?_⟩) (by assumption) ?_
      rotate_left
      · (intro w hSw; (try dsimp only at hSw); go_simp; try with_reducible rfl)
      simp only [Act.put, List.setIfInBounds_toArray, List.set_cons_zero, List.set_cons_succ]
      refine wpAnyH_take (i := 6) (oi := ⟨some 127, _, _, _, _, _⟩) (v := ?_) rfl (by kernel_rfl) (by kernel_rfl) (by kernel_rfl) (fun _ _ _ h => h) (Or.inl ⟨by rfl, ?_⟩) (by assumption) ?_
      rotate_left
      · (intro w hSw; (try dsimp only at hSw); go_simp; try with_reducible rfl)
      simp only [Act.put, List.setIfInBounds_toArray, List.set_cons_zero, List.set_cons_succ]
      refine wpAnyH_take (i := 7) (oi := ⟨some 128, _, _, _, _, _⟩) (v := ?_) rfl (by kernel_rfl) (by kernel_rfl) (by kernel_rfl) (fun _ _ _ h => h) (Or.inl ⟨by rfl, ?_⟩) (by assumption) ?_
      rotate_left
      · (intro w hSw; (try dsimp only at hSw); go_simp; try with_reducible rfl)
      simp only [Act.put, List.setIfInBounds_toArray, List.set_cons_zero, List.set_cons_succ]
      refine wpAnyH_take (i := 8) (oi := ⟨some 129, _, _, _, _, _⟩) (v := ?_) rfl (by kernel_rfl) (by kernel_rfl) (by kernel_rfl) (fun _ _ _ h => h) (Or.inl ⟨by rfl, ?_⟩) (by assumption) ?_
      rotate_left
      · (intro w hSw; (try dsimp only at hSw); go_simp; try with_reducible rfl)
      simp only [Act.put, List.setIfInBounds_toArray, List.set_cons_zero, List.set_cons_succ]
      refine wpAnyH_take (i := 9) (oi := ⟨some 130, _, _, _, _, _⟩) (v := ?_) rfl (by kernel_rfl) (by kernel_rfl) (by kernel_rfl) (fun _ _ _ h => h) (Or.inl ⟨by rfl, ?_⟩) (by assumption) ?_
      rotate_left
      · (intro w hSw; (try dsimp only at hSw); go_simp; try with_reducible rfl)
      simp only [Act.put, List.setIfInBounds_toArray, List.set_cons_zero, List.set_cons_succ]
      refine wpAnyH_ready (rs := [10]) (by kernel_rfl) (by simp) ?_
      refine AllReadyH.cons (o := ⟨some 131, _, _, _, _, _⟩) rfl (fun K hK => ?_) AllReadyH.nil
      go_simp
      go_at_call 19; refine (HC.out).mono ?_; rintro e w3 ⟨rfl, hb⟩; have HB3 := Lib.hid (below_trans HB.out.drew hb); have HT3 := Lib.hid (HT.out.drew.below hb); have HO3 := Lib.hid ((OutAt.drew HO2.out).below hb); have n5 := cell_below_drew n5 hb; have m0 := cell_below_drew m0 hb; have m1 := cell_below_drew m1 hb; have m2 := cell_below_drew m2 hb; have d0 := cell_below_drew d0 hb; have d1 := cell_below_drew d1 hb; have d2 := cell_below_drew d2 hb; have d3 := cell_below_drew d3 hb; have d4 := cell_below_drew d4 hb; have d5 := cell_below_drew d5 hb; have f0 := cell_below_drew f0 hb; have f1 := cell_below_drew f1 hb; have f2 := cell_below_drew f2 hb; have f3 := cell_below_drew f3 hb; have f4 := cell_below_drew f4 hb; have f5 := cell_below_drew f5 hb; clear hb
      refine hK.out _ _ (by (try dsimp only); exact ⟨n5, m0, m1, m2, d0, d1, d2, d3, d4, d5, f0, f1, f2, f3, f4, f5⟩) ?_
      clear hK K hHeld
      intro hHeld
      try simp only [Act.put, List.setIfInBounds_toArray, List.set_cons_zero, List.set_cons_succ]
      refine wpAnyH_take (i := 11) (oi := ⟨some 132, _, _, _, _, _⟩) (v := ?_) rfl (by kernel_rfl) (by kernel_rfl) (by kernel_rfl) (fun _ _ _ h => h) (Or.inl ⟨by rfl, ?_⟩) (by assumption) ?_
      rotate_left
      · (intro w hSw; (try dsimp only at hSw); go_simp; try with_reducible rfl)
      simp only [Act.put, List.setIfInBounds_toArray, List.set_cons_zero, List.set_cons_succ]
      refine wpAnyH_take (i := 12) (oi := ⟨some 133, _, _, _, _, _⟩) (v := ?_) rfl (by kernel_rfl) (by kernel_rfl) (by kernel_rfl) (fun _ _ _ h => h) (Or.inl ⟨by rfl, ?_⟩) (by assumption) ?_
      rotate_left
      · (intro w hSw; (try dsimp only at hSw); go_simp; try with_reducible rfl)
      simp only [Act.put, List.setIfInBounds_toArray, List.set_cons_zero, List.set_cons_succ]
      refine wpAnyH_take (i := 13) (oi := ⟨some 134, _, _, _, _, _⟩) (v := ?_) rfl (by kernel_rfl) (by kernel_rfl) (by kernel_rfl) (fun _ _ _ h => h) (Or.inl ⟨by rfl, ?_⟩) (by assumption) ?_
      rotate_left
      · (intro w hSw; (try dsimp only at hSw); go_simp; try with_reducible rfl)
      simp only [Act.put, List.setIfInBounds_toArray, List.set_cons_zero, List.set_cons_succ]
      refine wpAnyH_take (i := 14) (oi := ⟨some 135, _, _, _, _, _⟩) (v := ?_) rfl (by kernel_rfl) (by kernel_rfl) (by kernel_rfl) (fun _ _ _ h => h) (Or.inl ⟨by rfl, ?_⟩) (by assumption) ?_
      rotate_left
      · (intro w hSw; (try dsimp only at hSw); go_simp; try with_reducible rfl)
      simp only [Act.put, List.setIfInBounds_toArray, List.set_cons_zero, List.set_cons_succ]
      refine wpAnyH_take (i := 15) (oi := ⟨some 136, _, _, _, _, _⟩) (v := ?_) rfl (by kernel_rfl) (by kernel_rfl) (by kernel_rfl) (fun _ _ _ h => h) (Or.inl ⟨by rfl, ?_⟩) (by assumption) ?_
      rotate_left
      · (intro w hSw; (try dsimp only at hSw); go_simp; try with_reducible rfl)
      simp only [Act.put, List.setIfInBounds_toArray, List.set_cons_zero, List.set_cons_succ]
      refine wpAnyH_take (i := 16) (oi := ⟨some 137, _, _, _, _, _⟩) (v := ?_) rfl (by kernel_rfl) (by kernel_rfl) (by kernel_rfl) (fun _ _ _ h => h) (Or.inl ⟨by rfl, ?_⟩) (by assumption) ?_
      rotate_left
      · (intro w hSw; (try dsimp only at hSw); go_simp; try with_reducible rfl)
      simp only [Act.put, List.setIfInBounds_toArray, List.set_cons_zero, List.set_cons_succ]
      refine wpAnyH_take (i := 17) (oi := ⟨some 138, _, _, _, _, _⟩) (v := ?_) rfl (by kernel_rfl) (by kernel_rfl) (by kernel_rfl) (fun _ _ _ h => h) (Or.inl ⟨by rfl, ?_⟩) (by assumption) ?_
      rotate_left
      · (intro w hSw; (try dsimp only at hSw); go_simp; try with_reducible rfl)
      simp only [Act.put, List.setIfInBounds_toArray, List.set_cons_zero, List.set_cons_succ]
      refine wpAnyH_ready (rs := [18]) (by kernel_rfl) (by simp) ?_
      refine AllReadyH.cons (o := ⟨some 139, _, _, _, _, _⟩) rfl (fun K hK => ?_) AllReadyH.nil
      go_simp
      go_at_call 19; refine (HD.out _ _ _ _ HT3.out HO3.out).mono ?_; rintro e w4 ⟨rfl, hb⟩; have HB4 := Lib.hid (below_trans HB3.out hb); have n5 := cell_below n5 hb; have m0 := cell_below m0 hb; have m1 := cell_below m1 hb; have m2 := cell_below m2 hb; have d0 := cell_below d0 hb; have d1 := cell_below d1 hb; have d2 := cell_below d2 hb; have d3 := cell_below d3 hb; have d4 := cell_below d4 hb; have d5 := cell_below d5 hb; have f0 := cell_below f0 hb; have f1 := cell_below f1 hb; have f2 := cell_below f2 hb; have f3 := cell_below f3 hb; have f4 := cell_below f4 hb; have f5 := cell_below f5 hb; clear hb
      refine hK.out _ _ (by (try dsimp only); exact ⟨n5, m0, m1, m2, d0, d1, d2, d3, d4, d5, f0, f1, f2, f3, f4, f5⟩) ?_
      clear hK K hHeld
      intro hHeld
      try simp only [Act.put, List.setIfInBounds_toArray, List.set_cons_zero, List.set_cons_succ]
      refine wpAnyH_take (i := 19) (oi := ⟨some 140, _, _, _, _, _⟩) (v := ?_) rfl (by kernel_rfl) (by kernel_rfl) (by kernel_rfl) (fun _ _ _ h => h) (Or.inl ⟨by rfl, ?_⟩) (by assumption) ?_
      rotate_left
      · (intro w hSw; (try dsimp only at hSw); go_simp; try with_reducible rfl)
      simp only [Act.put, List.setIfInBounds_toArray, List.set_cons_zero, List.set_cons_succ]
      refine wpAnyH_take (i := 20) (oi := ⟨some 4, _, _, _, _, _⟩) (v := ?_) rfl (by kernel_rfl) (by kernel_rfl) (by kernel_rfl) (fun _ _ _ h => h) (Or.inl ⟨by rfl, ?_⟩) (by assumption) ?_
      rotate_left
      · (intro w hSw; (try dsimp only at hSw); go_simp; try with_reducible rfl)
      simp only [Act.put, List.setIfInBounds_toArray, List.set_cons_zero, List.set_cons_succ]
      refine wpAnyH_done (by kernel_rfl) ?_ _
      go_wp2_with fail
      go_ret
      exact ⟨by rw [HV2.out]; cases Y <;> rfl, HB4.out⟩
  by_cases h5 : k = 5 ∧ ln = 2
  · obtain ⟨rfl, rfl⟩ := h5
    obtain ⟨u, t, rfl⟩ := list2o HLEN.out
    have hpart := HR.out.part (j := 0) (by simp)
    simp only [List.getElem_cons_zero, Nat.zero_mul, Nat.add_zero] at hpart
    obtain ⟨g, off, k', co', rg', ad', va', q', l', cp', rfl, d0, d1, d2, d3, d4, d5, hu⟩ := hpart
    have hpart := HR.out.part (j := 1) (by simp)
    simp only [List.getElem_cons_zero, List.getElem_cons_succ, Nat.one_mul] at hpart
    obtain ⟨g2, off2, j0, j1, j2, j3, j4, jp, jl, jc, hgo, f0, f1, f2, f3, f4, f5, ht⟩ := hpart
    injection hgo with hgo
    injection hgo with hg1 hg2
    subst hg1 hg2
    have HC := Lib.hid (HI.out u (by simp) _ S _ _ (CT.At.drew hu) (OutAt.drew HO2.out))
    have HD := Lib.hid (HI.out t (by simp))
    have HT := Lib.hid ht
    have HV2 := Lib.hid (show R = (holdsT o u || holdsT o t) from by rw [HV.out]; rfl)
    clear hu ht lens HI HV
    generalize holdsT o u = X at *
    generalize holdsT o t = Y at *
    cases X
    · skip
      go_enter Try.func19, Try.ntmps19
      go_wp2_with fail
      refine wp_region_held_drew (S := (fun w' => w'.cell? ⟨w.heap.size, 5, none⟩ = some (.slice (some ⟨g, off, none⟩) 2 cap) ∧ w'.cell? ⟨w.heap.size + 1, 0, none⟩ = some (.slice p1 N1 c1) ∧ w'.cell? ⟨w.heap.size + 1, 1, none⟩ = some (.slice p2 N2 c2) ∧ w'.cell? ⟨w.heap.size + 1, 2, none⟩ = some (.slice p3 N3 c3) ∧ w'.cell? ⟨g, off, none⟩ = some (.int .i64 k') ∧ w'.cell? ⟨g, off + 1, none⟩ = some (.int .i64 co') ∧ w'.cell? ⟨g, off + 2, none⟩ = some (.int .i64 rg') ∧ w'.cell? ⟨g, off + 3, none⟩ = some (.int .u64 ad') ∧ w'.cell? ⟨g, off + 4, none⟩ = some (.int .u64 va') ∧ w'.cell? ⟨g, off + 5, none⟩ = some (.slice q' l' cp') ∧ w'.cell? ⟨g, off + 6, none⟩ = some (.int .i64 j0) ∧ w'.cell? ⟨g, off + 6 + 1, none⟩ = some (.int .i64 j1) ∧ w'.cell? ⟨g, off + 6 + 2, none⟩ = some (.int .i64 j2) ∧ w'.cell? ⟨g, off + 6 + 3, none⟩ = some (.int .u64 j3) ∧ w'.cell? ⟨g, off + 6 + 4, none⟩ = some (.int .u64 j4) ∧ w'.cell? ⟨g, off + 6 + 5, none⟩ = some (.slice jp jl jc))) (by kernel_rfl) (by (try dsimp only); exact ⟨n5, m0, m1, m2, d0, d1, d2, d3, d4, d5, f0, f1, f2, f3, f4, f5⟩) (fun hHeld => ?_)
      refine wpAnyH_take (i := 0) (oi := ⟨some 143, _, _, _, _, _⟩) (v := ?_) rfl (by kernel_rfl) (by kernel_rfl) (by kernel_rfl) (fun _ _ _ h => h) (Or.inl ⟨by rfl, ?_⟩) (by assumption) ?_
      rotate_left
      · (intro w hSw; (try dsimp only at hSw); go_simp; try with_reducible rfl)
      simp only [Act.put, List.setIfInBounds_toArray, List.set_cons_zero, List.set_cons_succ]
      refine wpAnyH_take (i := 1) (oi := ⟨some 144, _, _, _, _, _⟩) (v := ?_) rfl (by kernel_rfl) (by kernel_rfl) (by kernel_rfl) (fun _ _ _ h => h) (Or.inl ⟨by rfl, ?_⟩) (by assumption) ?_
      rotate_left
      · (intro w hSw; (try dsimp only at hSw); go_simp; try with_reducible rfl)
      simp only [Act.put, List.setIfInBounds_toArray, List.set_cons_zero, List.set_cons_succ]
      refine wpAnyH_take (i := 2) (oi := ⟨some 145, _, _, _, _, _⟩) (v := ?_) rfl (by kernel_rfl) (by kernel_rfl) (by kernel_rfl) (fun _ _ _ h => h) (Or.inl ⟨by rfl, ?_⟩) (by assumption) ?_
      rotate_left
      · (intro w hSw; (try dsimp only at hSw); go_simp; try with_reducible rfl)
      simp only [Act.put, List.setIfInBounds_toArray, List.set_cons_zero, List.set_cons_succ]
      refine wpAnyH_take (i := 3) (oi := ⟨some 146, _, _, _, _, _⟩) (v := ?_) rfl (by kernel_rfl) (by kernel_rfl) (by kernel_rfl) (fun _ _ _ h => h) (Or.inl ⟨by rfl, ?_⟩) (by assumption) ?_
      rotate_left
      · (intro w hSw; (try dsimp only at hSw); go_simp; try with_reducible rfl)
      simp only [Act.put, List.setIfInBounds_toArray, List.set_cons_zero, List.set_cons_succ]
      refine wpAnyH_take (i := 4) (oi := ⟨some 147, _, _, _, _, _⟩) (v := ?_) rfl (by kernel_rfl) (by kernel_rfl) (by kernel_rfl) (fun _ _ _ h => h) (Or.inl ⟨by rfl, ?_⟩) (by assumption) ?_
      rotate_left
      · (intro w hSw; (try dsimp only at hSw); go_simp; try with_reducible rfl)
      simp only [Act.put, List.setIfInBounds_toArray, List.set_cons_zero, List.set_cons_succ]
      refine wpAnyH_take (i := 5) (oi := ⟨some 148, _, _, _, _, _⟩) (v := ?_) rfl (by kernel_rfl) (by kernel_rfl) (by kernel_rfl) (fun _ _ _ h => h) (Or.inl ⟨by rfl, ?_⟩) (by assumption) ?_
      rotate_left
      · (intro w hSw; (try dsimp only at hSw); go_simp; try with_reducible rfl)
      simp only [Act.put, List.setIfInBounds_toArray, List.set_cons_zero, List.set_cons_succ]
      refine wpAnyH_take (i := 6) (oi := ⟨some 149, _, _, _, _, _⟩) (v := ?_) rfl (by kernel_rfl) (by kernel_rfl) (by kernel_rfl) (fun _ _ _ h => h) (Or.inl ⟨by rfl, ?_⟩) (by assumption) ?_
      rotate_left
      · (intro w hSw; (try dsimp only at hSw); go_simp; try with_reducible rfl)
      simp only [Act.put, List.setIfInBounds_toArray, List.set_cons_zero, List.set_cons_succ]
      refine wpAnyH_take (i := 7) (oi := ⟨some 150, _, _, _, _, _⟩) (v := ?_) rfl (by kernel_rfl) (by kernel_rfl) (by kernel_rfl) (fun _ _ _ h => h) (Or.inl ⟨by rfl, ?_⟩) (by assumption) ?_
      rotate_left
      · (intro w hSw; (try dsimp only at hSw); go_simp; try with_reducible rfl)
      simp only [Act.put, List.setIfInBounds_toArray, List.set_cons_zero, List.set_cons_succ]
      refine wpAnyH_take (i := 8) (oi := ⟨some 151, _, _, _, _, _⟩) (v := ?_) rfl (by kernel_rfl) (by kernel_rfl) (by kernel_rfl) (fun _ _ _ h => h) (Or.inl ⟨by rfl, ?_⟩) (by assumption) ?_
      rotate_left
      · (intro w hSw; (try dsimp only at hSw); go_simp; try with_reducible rfl)
      simp only [Act.put, List.setIfInBounds_toArray, List.set_cons_zero, List.set_cons_succ]
      refine wpAnyH_take (i := 9) (oi := ⟨some 152, _, _, _, _, _⟩) (v := ?_) rfl (by kernel_rfl) (by kernel_rfl) (by kernel_rfl) (fun _ _ _ h => h) (Or.inl ⟨by rfl, ?_⟩) (by assumption) ?_
      rotate_left
      · (intro w hSw; (try dsimp only at hSw); go_simp; try with_reducible rfl)
      simp only [Act.put, List.setIfInBounds_toArray, List.set_cons_zero, List.set_cons_succ]
      refine wpAnyH_ready (rs := [10]) (by kernel_rfl) (by simp) ?_
      refine AllReadyH.cons (o := ⟨some 153, _, _, _, _, _⟩) rfl (fun K hK => ?_) AllReadyH.nil
      go_simp
      go_at_call 19; refine (HC.out).mono ?_; rintro e w3 ⟨rfl, hb⟩; have HB3 := Lib.hid (below_trans HB.out.drew hb); have HT3 := Lib.hid (HT.out.drew.below hb); have HO3 := Lib.hid ((OutAt.drew HO2.out).below hb); have n5 := cell_below_drew n5 hb; have m0 := cell_below_drew m0 hb; have m1 := cell_below_drew m1 hb; have m2 := cell_below_drew m2 hb; have d0 := cell_below_drew d0 hb; have d1 := cell_below_drew d1 hb; have d2 := cell_below_drew d2 hb; have d3 := cell_below_drew d3 hb; have d4 := cell_below_drew d4 hb; have d5 := cell_below_drew d5 hb; have f0 := cell_below_drew f0 hb; have f1 := cell_below_drew f1 hb; have f2 := cell_below_drew f2 hb; have f3 := cell_below_drew f3 hb; have f4 := cell_below_drew f4 hb; have f5 := cell_below_drew f5 hb; clear hb
      refine hK.out _ _ (by (try dsimp only); exact ⟨n5, m0, m1, m2, d0, d1, d2, d3, d4, d5, f0, f1, f2, f3, f4, f5⟩) ?_
      clear hK K hHeld
      intro hHeld
      try simp only [Act.put, List.setIfInBounds_toArray, List.set_cons_zero, List.set_cons_succ]
      refine wpAnyH_take (i := 11) (oi := ⟨some 154, _, _, _, _, _⟩) (v := ?_) rfl (by kernel_rfl) (by kernel_rfl) (by kernel_rfl) (fun _ _ _ h => h) (Or.inl ⟨by rfl, ?_⟩) (by assumption) ?_
      rotate_left
      · (intro w hSw; (try dsimp only at hSw); go_simp; try with_reducible rfl)
      simp only [Act.put, List.setIfInBounds_toArray, List.set_cons_zero, List.set_cons_succ]
      refine wpAnyH_take (i := 12) (oi := ⟨some 155, _, _, _, _, _⟩) (v := ?_) rfl (by kernel_rfl) (by kernel_rfl) (by kernel_rfl) (fun _ _ _ h => h) (Or.inl ⟨by rfl, ?_⟩) (by assumption) ?_
      rotate_left
      · (intro w hSw; (try dsimp only at hSw); go_simp; try with_reducible rfl)
      simp only [Act.put, List.setIfInBounds_toArray, List.set_cons_zero, List.set_cons_succ]
      refine wpAnyH_take (i := 13) (oi := ⟨some 156, _, _, _, _, _⟩) (v := ?_) rfl (by kernel_rfl) (by kernel_rfl) (by kernel_rfl) (fun _ _ _ h => h) (Or.inl ⟨by rfl, ?_⟩) (by assumption) ?_
      rotate_left
      · (intro w hSw; (try dsimp only at hSw); go_simp; try with_reducible rfl)
      simp only [Act.put, List.setIfInBounds_toArray, List.set_cons_zero, List.set_cons_succ]
      refine wpAnyH_take (i := 14) (oi := ⟨some 157, _, _, _, _, _⟩) (v := ?_) rfl (by kernel_rfl) (by kernel_rfl) (by kernel_rfl) (fun _ _ _ h => h) (Or.inl ⟨by rfl, ?_⟩) (by assumption) ?_
      rotate_left
      · (intro w hSw; (try dsimp only at hSw); go_simp; try with_reducible rfl)
      simp only [Act.put, List.setIfInBounds_toArray, List.set_cons_zero, List.set_cons_succ]
      refine wpAnyH_take (i := 15) (oi := ⟨some 158, _, _, _, _, _⟩) (v := ?_) rfl (by kernel_rfl) (by kernel_rfl) (by kernel_rfl) (fun _ _ _ h => h) (Or.inl ⟨by rfl, ?_⟩) (by assumption) ?_
      rotate_left
      · (intro w hSw; (try dsimp only at hSw); go_simp; try with_reducible rfl)
      simp only [Act.put, List.setIfInBounds_toArray, List.set_cons_zero, List.set_cons_succ]
      refine wpAnyH_take (i := 16) (oi := ⟨some 159, _, _, _, _, _⟩) (v := ?_) rfl (by kernel_rfl) (by kernel_rfl) (by kernel_rfl) (fun _ _ _ h => h) (Or.inl ⟨by rfl, ?_⟩) (by assumption) ?_
      rotate_left
      · (intro w hSw; (try dsimp only at hSw); go_simp; try with_reducible rfl)
      simp only [Act.put, List.setIfInBounds_toArray, List.set_cons_zero, List.set_cons_succ]
      refine wpAnyH_ready (rs := [17]) (by kernel_rfl) (by simp) ?_
      refine AllReadyH.cons (o := ⟨some 160, _, _, _, _, _⟩) rfl (fun K hK => ?_) AllReadyH.nil
      go_simp
      go_at_call 19; refine (HD.out _ _ _ _ HT3.out HO3.out).mono ?_; rintro e w4 ⟨rfl, hb⟩; have HB4 := Lib.hid (below_trans HB3.out hb); have n5 := cell_below n5 hb; have m0 := cell_below m0 hb; have m1 := cell_below m1 hb; have m2 := cell_below m2 hb; have d0 := cell_below d0 hb; have d1 := cell_below d1 hb; have d2 := cell_below d2 hb; have d3 := cell_below d3 hb; have d4 := cell_below d4 hb; have d5 := cell_below d5 hb; have f0 := cell_below f0 hb; have f1 := cell_below f1 hb; have f2 := cell_below f2 hb; have f3 := cell_below f3 hb; have f4 := cell_below f4 hb; have f5 := cell_below f5 hb; clear hb
      refine hK.out _ _ (by (try dsimp only); exact ⟨n5, m0, m1, m2, d0, d1, d2, d3, d4, d5, f0, f1, f2, f3, f4, f5⟩) ?_
      clear hK K hHeld
      intro hHeld
      try simp only [Act.put, List.setIfInBounds_toArray, List.set_cons_zero, List.set_cons_succ]
      refine wpAnyH_take (i := 18) (oi := ⟨some 161, _, _, _, _, _⟩) (v := ?_) rfl (by kernel_rfl) (by kernel_rfl) (by kernel_rfl) (fun _ _ _ h => h) (Or.inl ⟨by rfl, ?_⟩) (by assumption) ?_
      rotate_left
      · (intro w hSw; (try dsimp only at hSw); go_simp; try with_reducible rfl)
      simp only [Act.put, List.setIfInBounds_toArray, List.set_cons_zero, List.set_cons_succ]
      refine wpAnyH_take (i := 19) (oi := ⟨some 162, _, _, _, _, _⟩) (v := ?_) rfl (by kernel_rfl) (by kernel_rfl) (by kernel_rfl) (fun _ _ _ h => h) (Or.inl ⟨by rfl, ?_⟩) (by assumption) ?_
      rotate_left
      · (intro w hSw; (try dsimp only at hSw); go_simp; try with_reducible rfl)
      simp only [Act.put, List.setIfInBounds_toArray, List.set_cons_zero, List.set_cons_succ]
      refine wpAnyH_take (i := 20) (oi := ⟨some 4, _, _, _, _, _⟩) (v := ?_) rfl (by kernel_rfl) (by kernel_rfl) (by kernel_rfl) (fun _ _ _ h => h) (Or.inl ⟨by rfl, ?_⟩) (by assumption) ?_
      rotate_left
      · (intro w hSw; (try dsimp only at hSw); go_simp; try with_reducible rfl)
      simp only [Act.put, List.setIfInBounds_toArray, List.set_cons_zero, List.set_cons_succ]
      refine wpAnyH_done (by kernel_rfl) ?_ _
      go_wp2_with fail
      go_ret
      exact ⟨by rw [HV2.out]; cases Y <;> rfl, HB4.out⟩
    · skip
      go_enter Try.func19, Try.ntmps19
      go_wp2_with fail
      refine wp_region_held_drew (S := (fun w' => w'.cell? ⟨w.heap.size, 5, none⟩ = some (.slice (some ⟨g, off, none⟩) 2 cap) ∧ w'.cell? ⟨w.heap.size + 1, 0, none⟩ = some (.slice p1 N1 c1) ∧ w'.cell? ⟨w.heap.size + 1, 1, none⟩ = some (.slice p2 N2 c2) ∧ w'.cell? ⟨w.heap.size + 1, 2, none⟩ = some (.slice p3 N3 c3) ∧ w'.cell? ⟨g, off, none⟩ = some (.int .i64 k') ∧ w'.cell? ⟨g, off + 1, none⟩ = some (.int .i64 co') ∧ w'.cell? ⟨g, off + 2, none⟩ = some (.int .i64 rg') ∧ w'.cell? ⟨g, off + 3, none⟩ = some (.int .u64 ad') ∧ w'.cell? ⟨g, off + 4, none⟩ = some (.int .u64 va') ∧ w'.cell? ⟨g, off + 5, none⟩ = some (.slice q' l' cp') ∧ w'.cell? ⟨g, off + 6, none⟩ = some (.int .i64 j0) ∧ w'.cell? ⟨g, off + 6 + 1, none⟩ = some (.int .i64 j1) ∧ w'.cell? ⟨g, off + 6 + 2, none⟩ = some (.int .i64 j2) ∧ w'.cell? ⟨g, off + 6 + 3, none⟩ = some (.int .u64 j3) ∧ w'.cell? ⟨g, off + 6 + 4, none⟩ = some (.int .u64 j4) ∧ w'.cell? ⟨g, off + 6 + 5, none⟩ = some (.slice jp jl jc))) (by kernel_rfl) (by (try dsimp only); exact ⟨n5, m0, m1, m2, d0, d1, d2, d3, d4, d5, f0, f1, f2, f3, f4, f5⟩) (fun hHeld => ?_)
      refine wpAnyH_take (i := 0) (oi := ⟨some 143, _, _, _, _, _⟩) (v := ?_) rfl (by kernel_rfl) (by kernel_rfl) (by kernel_rfl) (fun _ _ _ h => h) (Or.inl ⟨by rfl, ?_⟩) (by assumption) ?_
      rotate_left
      · (intro w hSw; (try dsimp only at hSw); go_simp; try with_reducible rfl)
      simp only [Act.put, List.setIfInBounds_toArray, List.set_cons_zero, List.set_cons_succ]
      refine wpAnyH_take (i := 1) (oi := ⟨some 144, _, _, _, _, _⟩) (v := ?_) rfl (by kernel_rfl) (by kernel_rfl) (by kernel_rfl) (fun _ _ _ h => h) (Or.inl ⟨by rfl, ?_⟩) (by assumption) ?_
      rotate_left
      · (intro w hSw; (try dsimp only at hSw); go_simp; try with_reducible rfl)
      simp only [Act.put, List.setIfInBounds_toArray, List.set_cons_zero, List.set_cons_succ]
      refine wpAnyH_take (i := 2) (oi := ⟨some 145, _, _, _, _, _⟩) (v := ?_) rfl (by kernel_rfl) (by kernel_rfl) (by kernel_rfl) (fun _ _ _ h => h) (Or.inl ⟨by rfl, ?_⟩) (by assumption) ?_
      rotate_left
      · (intro w hSw; (try dsimp only at hSw); go_simp; try with_reducible rfl)
      simp only [Act.put, List.setIfInBounds_toArray, List.set_cons_zero, List.set_cons_succ]
      refine wpAnyH_take (i := 3) (oi := ⟨some 146, _, _, _, _, _⟩) (v := ?_) rfl (by kernel_rfl) (by kernel_rfl) (by kernel_rfl) (fun _ _ _ h => h) (Or.inl ⟨by rfl, ?_⟩) (by assumption) ?_
      rotate_left
      · (intro w hSw; (try dsimp only at hSw); go_simp; try with_reducible rfl)
      simp only [Act.put, List.setIfInBounds_toArray, List.set_cons_zero, List.set_cons_succ]
      refine wpAnyH_take (i := 4) (oi := ⟨some 147, _, _, _, _, _⟩) (v := ?_) rfl (by kernel_rfl) (by kernel_rfl) (by kernel_rfl) (fun _ _ _ h => h) (Or.inl ⟨by rfl, ?_⟩) (by assumption) ?_
      rotate_left
      · (intro w hSw; (try dsimp only at hSw); go_simp; try with_reducible rfl)
      simp only [Act.put, List.setIfInBounds_toArray, List.set_cons_zero, List.set_cons_succ]
      refine wpAnyH_take (i := 5) (oi := ⟨some 148, _, _, _, _, _⟩) (v := ?_) rfl (by kernel_rfl) (by kernel_rfl) (by kernel_rfl) (fun _ _ _ h => h) (Or.inl ⟨by rfl, ?_⟩) (by assumption) ?_
      rotate_left
      · (intro w hSw; (try dsimp only at hSw); go_simp; try with_reducible rfl)
      simp only [Act.put, List.setIfInBounds_toArray, List.set_cons_zero, List.set_cons_succ]
      refine wpAnyH_take (i := 6) (oi := ⟨some 149, _, _, _, _, _⟩) (v := ?_) rfl (by kernel_rfl) (by kernel_rfl) (by kernel_rfl) (fun _ _ _ h => h) (Or.inl ⟨by rfl, ?_⟩) (by assumption) ?_
      rotate_left
      · (intro w hSw; (try dsimp only at hSw); go_simp; try with_reducible rfl)
      simp only [Act.put, List.setIfInBounds_toArray, List.set_cons_zero, List.set_cons_succ]
      refine wpAnyH_take (i := 7) (oi := ⟨some 150, _, _, _, _, _⟩) (v := ?_) rfl (by kernel_rfl) (by kernel_rfl) (by kernel_rfl) (fun _ _ _ h => h) (Or.inl ⟨by rfl, ?_⟩) (by assumption) ?_
      rotate_left
      · (intro w hSw; (try dsimp only at hSw); go_simp; try with_reducible rfl)
      simp only [Act.put, List.setIfInBounds_toArray, List.set_cons_zero, List.set_cons_succ]
      refine wpAnyH_take (i := 8) (oi := ⟨some 151, _, _, _, _, _⟩) (v := ?_) rfl (by kernel_rfl) (by kernel_rfl) (by kernel_rfl) (fun _ _ _ h => h) (Or.inl ⟨by rfl, ?_⟩) (by assumption) ?_
      rotate_left
      · (intro w hSw; (try dsimp only at hSw); go_simp; try with_reducible rfl)
      simp only [Act.put, List.setIfInBounds_toArray, List.set_cons_zero, List.set_cons_succ]
      refine wpAnyH_take (i := 9) (oi := ⟨some 152, _, _, _, _, _⟩) (v := ?_) rfl (by kernel_rfl) (by kernel_rfl) (by kernel_rfl) (fun _ _ _ h => h) (Or.inl ⟨by rfl, ?_⟩) (by assumption) ?_
      rotate_left
      · (intro w hSw; (try dsimp only at hSw); go_simp; try with_reducible rfl)
      simp only [Act.put, List.setIfInBounds_toArray, List.set_cons_zero, List.set_cons_succ]
      refine wpAnyH_ready (rs := [10]) (by kernel_rfl) (by simp) ?_
      refine AllReadyH.cons (o := ⟨some 153, _, _, _, _, _⟩) rfl (fun K hK => ?_) AllReadyH.nil
      go_simp
      go_at_call 19; refine (HC.out).mono ?_; rintro e w3 ⟨rfl, hb⟩; have HB3 := Lib.hid (below_trans HB.out.drew hb); have n5 := cell_below_drew n5 hb; have m0 := cell_below_drew m0 hb; have m1 := cell_below_drew m1 hb; have m2 := cell_below_drew m2 hb; have d0 := cell_below_drew d0 hb; have d1 := cell_below_drew d1 hb; have d2 := cell_below_drew d2 hb; have d3 := cell_below_drew d3 hb; have d4 := cell_below_drew d4 hb; have d5 := cell_below_drew d5 hb; have f0 := cell_below_drew f0 hb; have f1 := cell_below_drew f1 hb; have f2 := cell_below_drew f2 hb; have f3 := cell_below_drew f3 hb; have f4 := cell_below_drew f4 hb; have f5 := cell_below_drew f5 hb; clear hb
      refine hK.out _ _ (by (try dsimp only); exact ⟨n5, m0, m1, m2, d0, d1, d2, d3, d4, d5, f0, f1, f2, f3, f4, f5⟩) ?_
      clear hK K hHeld
      intro hHeld
      try simp only [Act.put, List.setIfInBounds_toArray, List.set_cons_zero, List.set_cons_succ]
      refine wpAnyH_take (i := 11) (oi := ⟨some 154, _, _, _, _, _⟩) (v := ?_) rfl (by kernel_rfl) (by kernel_rfl) (by kernel_rfl) (fun _ _ _ h => h) (Or.inl ⟨by rfl, ?_⟩) (by assumption) ?_
      rotate_left
      · (intro w hSw; (try dsimp only at hSw); go_simp; try with_reducible rfl)
      simp only [Act.put, List.setIfInBounds_toArray, List.set_cons_zero, List.set_cons_succ]
      refine wpAnyH_take (i := 12) (oi := ⟨some 155, _, _, _, _, _⟩) (v := undef) rfl (by kernel_rfl) (by kernel_rfl) (by kernel_rfl) (fun _ _ _ h => h) (Or.inr ⟨by rfl, rfl⟩) (by assumption) ?_
      simp only [Act.put, List.setIfInBounds_toArray, List.set_cons_zero, List.set_cons_succ]
      refine wpAnyH_take (i := 13) (oi := ⟨some 156, _, _, _, _, _⟩) (v := undef) rfl (by kernel_rfl) (by kernel_rfl) (by kernel_rfl) (fun _ _ _ h => h) (Or.inr ⟨by rfl, rfl⟩) (by assumption) ?_
      simp only [Act.put, List.setIfInBounds_toArray, List.set_cons_zero, List.set_cons_succ]
      refine wpAnyH_take (i := 14) (oi := ⟨some 157, _, _, _, _, _⟩) (v := undef) rfl (by kernel_rfl) (by kernel_rfl) (by kernel_rfl) (fun _ _ _ h => h) (Or.inr ⟨by rfl, rfl⟩) (by assumption) ?_
      simp only [Act.put, List.setIfInBounds_toArray, List.set_cons_zero, List.set_cons_succ]
      refine wpAnyH_take (i := 15) (oi := ⟨some 158, _, _, _, _, _⟩) (v := undef) rfl (by kernel_rfl) (by kernel_rfl) (by kernel_rfl) (fun _ _ _ h => h) (Or.inr ⟨by rfl, rfl⟩) (by assumption) ?_
      simp only [Act.put, List.setIfInBounds_toArray, List.set_cons_zero, List.set_cons_succ]
      refine wpAnyH_take (i := 16) (oi := ⟨some 159, _, _, _, _, _⟩) (v := undef) rfl (by kernel_rfl) (by kernel_rfl) (by kernel_rfl) (fun _ _ _ h => h) (Or.inr ⟨by rfl, rfl⟩) (by assumption) ?_
      simp only [Act.put, List.setIfInBounds_toArray, List.set_cons_zero, List.set_cons_succ]
      refine wpAnyH_take (i := 17) (oi := ⟨some 160, _, _, _, _, _⟩) (v := undef) rfl (by kernel_rfl) (by kernel_rfl) (by kernel_rfl) (fun _ _ _ h => h) (Or.inr ⟨by rfl, rfl⟩) (by assumption) ?_
      simp only [Act.put, List.setIfInBounds_toArray, List.set_cons_zero, List.set_cons_succ]
      refine wpAnyH_take (i := 18) (oi := ⟨some 161, _, _, _, _, _⟩) (v := ?_) rfl (by kernel_rfl) (by kernel_rfl) (by kernel_rfl) (fun _ _ _ h => h) (Or.inl ⟨by rfl, ?_⟩) (by assumption) ?_
      rotate_left
      · (intro w hSw; (try dsimp only at hSw); go_simp; try with_reducible rfl)
      simp only [Act.put, List.setIfInBounds_toArray, List.set_cons_zero, List.set_cons_succ]
      refine wpAnyH_take (i := 19) (oi := ⟨some 162, _, _, _, _, _⟩) (v := ?_) rfl (by kernel_rfl) (by kernel_rfl) (by kernel_rfl) (fun _ _ _ h => h) (Or.inl ⟨by rfl, ?_⟩) (by assumption) ?_
      rotate_left
      · (intro w hSw; (try dsimp only at hSw); go_simp; try with_reducible rfl)
      simp only [Act.put, List.setIfInBounds_toArray, List.set_cons_zero, List.set_cons_succ]
      refine wpAnyH_take (i := 20) (oi := ⟨some 4, _, _, _, _, _⟩) (v := ?_) rfl (by kernel_rfl) (by kernel_rfl) (by kernel_rfl) (fun _ _ _ h => h) (Or.inl ⟨by rfl, ?_⟩) (by assumption) ?_
      rotate_left
      · (intro w hSw; (try dsimp only at hSw); go_simp; try with_reducible rfl)
      simp only [Act.put, List.setIfInBounds_toArray, List.set_cons_zero, List.set_cons_succ]
      refine wpAnyH_done (by kernel_rfl) ?_ _
      go_wp2_with fail
      go_ret
      exact ⟨by rw [HV2.out]; cases Y <;> rfl, HB3.out⟩
  have HV2 := Lib.hid (show R = false from by
    rw [HV.out]
    have hlen := HLEN.out
    clear HLEN HN HB HM HR HO2 lens n0 n1 n2 n3 n4 n5 m0 m1 m2
    subst hlen
    match args, h6, h4, h5 with
    | [], _, _, _ => simp [holdsL, argsB]
    | [x], h6, _, _ => have : ¬ k = 6 := fun e => h6 ⟨e, rfl⟩; simp [holdsL, argsB, this]
    | [x, y], _, h4, h5 => have a1 : ¬ k = 4 := fun e => h4 ⟨e, rfl⟩; have a2 : ¬ k = 5 := fun e => h5 ⟨e, rfl⟩; simp [holdsL, argsB, a1, a2]
    | x :: y :: z :: l, _, _, _ => simp [holdsL, argsB])
  clear HI HR HV HLEN HO2
  by_cases q6 : k = 6
  · have l1 : ¬ ln = 1 := fun e => h6 ⟨q6, e⟩
    have l2 : ¬ (ln : Int) = 1 := by omega
    have l3 : ((ln : Int) == 1) = false := by rw [beq_eq_false_iff_ne]; exact l2
    have ld : decide ((ln : Int) = 1) = false := decide_eq_false l2
    clear h6 h4 h5 lens
    subst q6
    go_enter Try.func19, Try.ntmps19
    go_wp2_with fail
    go_quiet (fail)
    go_wp2_with fail
    go_ret
    exact ⟨by rw [HV2.out]; rfl, below_drewN HB.out _⟩
  have e6 : (k == 6) = false := by rw [beq_eq_false_iff_ne]; exact q6
  by_cases q4 : k = 4
  · have l1 : ¬ ln = 2 := fun e => h4 ⟨q4, e⟩
    have l2 : ¬ (ln : Int) = 2 := by omega
    have l3 : ((ln : Int) == 2) = false := by rw [beq_eq_false_iff_ne]; exact l2
    have ld : decide ((ln : Int) = 2) = false := decide_eq_false l2
    clear h6 h4 h5 lens
    subst q4
    go_enter Try.func19, Try.ntmps19
    go_wp2_with fail
    go_quiet (fail)
    go_wp2_with fail
    go_ret
    exact ⟨by rw [HV2.out]; rfl, below_drewN HB.out _⟩
  have e4 : (k == 4) = false := by rw [beq_eq_false_iff_ne]; exact q4
  by_cases q5 : k = 5
  · have l1 : ¬ ln = 2 := fun e => h5 ⟨q5, e⟩
    have l2 : ¬ (ln : Int) = 2 := by omega
    have l3 : ((ln : Int) == 2) = false := by rw [beq_eq_false_iff_ne]; exact l2
    have ld : decide ((ln : Int) = 2) = false := decide_eq_false l2
    clear h6 h4 h5 lens
    subst q5
    go_enter Try.func19, Try.ntmps19
    go_wp2_with fail
    go_quiet (fail)
    go_wp2_with fail
    go_ret
    exact ⟨by rw [HV2.out]; rfl, below_drewN HB.out _⟩
  have e5 : (k == 5) = false := by rw [beq_eq_false_iff_ne]; exact q5
  clear lens
  go_enter Try.func19, Try.ntmps19
  go_wp2_with fail
  go_ret
  exact ⟨by rw [HV2.out]; rfl, HB.out⟩
set_option maxRecDepth 100000 in
set_option maxHeartbeats 6400000 in
theorem rholds_any (o : OU) : ∀ (t : CT) (w : World) (S : Nat → Prop) (cs os : List Value), CT.At w S t cs → OutAt w o os →
    Calls Try.prog 20 #[.agg cs.toArray, .agg os.toArray] w fun e w' => e = .returned (.bool (holdsT o t)) ∧ Below w.heap.size w w' := by
  intro t
  refine CT.ind (P := fun t => ∀ (w : World) (S : Nat → Prop) (cs os : List Value), CT.At w S t cs → OutAt w o os → Calls Try.prog 20 #[.agg cs.toArray, .agg os.toArray] w fun e w' => e = .returned (.bool (holdsT o t)) ∧ Below w.heap.size w w') ?_ t
  intro k c r a v args IH w S cs os ht ho
  obtain ⟨p, cap, rfl, h1, h2, h3, h4, h5⟩ := ht.own
  have HO := Lib.hid ho
  obtain ⟨p1, c1, p2, c2, p3, c3, rfl, hbd, q1, q2, q3⟩ := ho
  obtain ⟨hbd1, hbd2, hbd3⟩ := hbd
  have HI := Lib.hid IH
  have HV := Lib.hid (show holdsT o (.mk k c r a v args) = holdsX o k c r a v (holdsL o args) from rfl)
  generalize holdsT o (.mk k c r a v args) = R at *
  generalize hlen : args.length = ln at *
  obtain ⟨N1, hN1⟩ : ∃ N, o.regs.length = N := ⟨_, rfl⟩
  obtain ⟨N2, hN2⟩ : ∃ N, o.faults.length = N := ⟨_, rfl⟩
  obtain ⟨N3, hN3⟩ : ∃ N, o.cells.length = N := ⟨_, rfl⟩
  rw [hN1, hN2, hN3] at HO ⊢
  rw [hN1] at hbd1
  rw [hN2] at hbd2
  rw [hN3] at hbd3
  have hB0 := below_alloc (below_alloc (Below.refl w.heap.size w) (.cells #[.int .i64 k, .int .i64 c, .int .i64 r, .int .u64 (a : Nat), .int .u64 (v : Nat), .slice p ln cap] 25)) (.cells #[.slice p1 N1 c1, .slice p2 N2 c2, .slice p3 N3 c3] 48)
  have HB := Lib.hid hB0
  have HN := Lib.hid ((own_box w #[.int .i64 k, .int .i64 c, .int .i64 r, .int .u64 (a : Nat), .int .u64 (v : Nat), .slice p ln cap]).alloc (.cells #[.slice p1 N1 c1, .slice p2 N2 c2, .slice p3 N3 c3] 48))
  have HM := Lib.hid (show Blk ((w.alloc (.cells #[.int .i64 k, .int .i64 c, .int .i64 r, .int .u64 (a : Nat), .int .u64 (v : Nat), .slice p ln cap] 25)).alloc (.cells #[.slice p1 N1 c1, .slice p2 N2 c2, .slice p3 N3 c3] 48)) 48 (w.heap.size + 1) [.slice p1 N1 c1, .slice p2 N2 c2, .slice p3 N3 c3] from by simpa using Blk.new (w.alloc (.cells #[.int .i64 k, .int .i64 c, .int .i64 r, .int .u64 (a : Nat), .int .u64 (v : Nat), .slice p ln cap] 25)) 48 [.slice p1 N1 c1, .slice p2 N2 c2, .slice p3 N3 c3])
  have HR := Lib.hid (h5.below hB0)
  have HO2 := Lib.hid (HO.out.below hB0)
  have hcap : cap ≤ 9223372036854775807 := by unfold maxLen at h2; omega
  obtain ⟨hv, hkI, hcI, hrI⟩ := h4
  have HLEN := Lib.hid hlen
  have HK := Lib.hid (fun (x : Addr) (u : Value) (h : w.cell? x = some u) => (hB0.cell (World.block_lt_of_cell? w x h)).trans h)
  have HQ1 := Lib.hid q1
  have HQ2 := Lib.hid q2
  have HQ3 := Lib.hid q3
  clear ht IH h5 hlen HO hB0 q1 q2 q3
  obtain ⟨n0, n1, n2, n3, n4, n5⟩ := blk_cells6' HN.out
  have m0 := HM.out.cell 0
  have m1 := HM.out.cell 1
  have m2 := HM.out.cell 2
  simp only [List.getElem?_cons_zero, List.getElem?_cons_succ] at m0 m1 m2
  have lens : ∀ x : Nat, ¬ ln = x → ¬ (ln : Int) = x ∧ ((ln : Int) == x) = false := fun x h => ⟨by omega, by rw [beq_eq_false_iff_ne]; omega⟩
  by_cases k1 : k = 1
  · subst k1
    have HV := Lib.hid (show R = regX o c r v from by rw [HV.out]; rfl)
    by_cases c0 : 0 ≤ c
    · obtain ⟨ci, rfl⟩ := Int.eq_ofNat_of_zero_le c0
      by_cases cl : ci < N1
      · have cli : (ci : Int) < N1 := by omega
        obtain ⟨g, off, q, cp, rfl, d0, hrl, hrow⟩ := HQ1.out ci (by rw [hN1]; exact cl)
        have d0 := HK.out _ _ d0
        have HRO := Lib.hid (fun hr => reg_out o ci r v (by rw [hN1]; exact cl) hr)
        have HRI := Lib.hid (fun ri hr => reg_in o ci ri v (by rw [hN1]; exact cl) hr)
        generalize o.regs[ci] = row at *
        obtain ⟨RL, hRL⟩ : ∃ N, row.length = N := ⟨_, rfl⟩
        rw [hRL] at d0 hrl
        by_cases r0 : 0 ≤ r
        · obtain ⟨ri, rfl⟩ := Int.eq_ofNat_of_zero_le r0
          by_cases rl : ri < RL
          · have rli : (ri : Int) < RL := by omega
            obtain ⟨g2, off2, rfl, d1⟩ := hrow ri (by rw [hRL]; exact rl)
            have d1 := HK.out _ _ d1
            have HX := Lib.hid (HRI.out ri (by rw [hRL]; exact rl))
            generalize row[ri] = x at *
            clear hrow HRI HRO
            by_cases hx : x = (v : Int)
            · have HX := HX.out.trans (decide_eq_true hx)
              clear HI HR HO2 HQ1 HQ2 HQ3 HK lens
              subst hx
              go_enter Try.func20, Try.ntmps20
              go_wp2_with fail
              go_quiet (fail)
              go_wp2_with fail
              go_ret
              exact ⟨by rw [HV.out, HX]; first | rfl | simp, below_drewN HB.out _⟩
            have hxb : (x == (v : Int)) = false := by rw [beq_eq_false_iff_ne]; exact hx
            have HX := HX.out.trans (decide_eq_false hx)
            clear HI HR HO2 HQ1 HQ2 HQ3 HK lens
            go_enter Try.func20, Try.ntmps20
            go_wp2_with fail
            go_quiet (fail)
            go_wp2_with fail
            go_ret
            exact ⟨by rw [HV.out, HX]; first | rfl | simp [hx], below_drewN HB.out _⟩
          · have rli : ¬ (ri : Int) < RL := by omega
            have rld : decide ((ri : Int) < RL) = false := decide_eq_false rli
            have HX := HRO.out (by rw [hRL]; exact rli)
            clear hrow HRI HRO
            clear HI HR HO2 HQ1 HQ2 HQ3 HK lens
            go_enter Try.func20, Try.ntmps20
            go_wp2_with fail
            go_quiet (fail)
            go_wp2_with fail
            go_ret
            exact ⟨by rw [HV.out, HX]; first | rfl | simp, below_drewN HB.out _⟩
        · have rld : decide ((0 : Int) ≤ r) = false := decide_eq_false r0
          have HX := (show regX o ci r v = false from by unfold regX; rw [rld]; simp)
          clear hrow HRI HRO
          clear HI HR HO2 HQ1 HQ2 HQ3 HK lens
          go_enter Try.func20, Try.ntmps20
          go_wp2_with fail
          go_quiet (fail)
          go_wp2_with fail
          go_ret
          exact ⟨by rw [HV.out, HX]; first | rfl | simp, below_drewN HB.out _⟩
      · have cli : ¬ (ci : Int) < N1 := by omega
        have cld : decide ((ci : Int) < N1) = false := decide_eq_false cli
        have HX := (show regX o ci r v = false from by unfold regX; rw [hN1, cld]; simp)
        clear HI HR HO2 HQ1 HQ2 HQ3 HK lens
        go_enter Try.func20, Try.ntmps20
        go_wp2_with fail
        go_quiet (fail)
        go_wp2_with fail
        go_ret
        exact ⟨by rw [HV.out, HX]; first | rfl | simp, below_drewN HB.out _⟩
    · have cld : decide ((0 : Int) ≤ c) = false := decide_eq_false c0
      have HX := (show regX o c r v = false from by unfold regX; rw [cld]; rfl)
      clear HI HR HO2 HQ1 HQ2 HQ3 HK lens
      go_enter Try.func20, Try.ntmps20
      go_wp2_with fail
      go_quiet (fail)
      go_wp2_with fail
      go_ret
      exact ⟨by rw [HV.out, HX]; first | rfl | simp, below_drewN HB.out _⟩
  have e1 : (k == 1) = false := by rw [beq_eq_false_iff_ne]; exact k1
  by_cases k2 : k = 2
  · subst k2
    have HV := Lib.hid (show R = decide (lastC a o.cells = (v : Int)) from by rw [HV.out]; rfl)
    clear HI HR HQ1 HQ2 lens
    go_enter Try.func20, Try.ntmps20
    generalize hW1 : (w.alloc (.cells #[.int .i64 2, .int .i64 c, .int .i64 r, .int .u64 (a : Nat), .int .u64 (v : Nat), .slice p ln cap] 25)).alloc (.cells #[.slice p1 N1 c1, .slice p2 N2 c2, .slice p3 N3 c3] 48) = w1 at *
    have hsz : w.heap.size + 1 < w1.heap.size := by rw [← hW1]; first | (simp; done) | (simp; omega)
    have HW1 := Lib.hid hW1
    clear hW1
    go_wp2_with fail
    go_loopw [6] (fun i wr => ∃ j : Nat, j ≤ N3 ∧ i = .int .i64 ((j : Int) - 1) ∧ (∀ x ∈ o.cells.drop j, ¬ x.1 = (a : Int)) ∧ ∃ m, wr = w1.drewN m) (fun i _ => (intOf i + 1).toNat)
    case atStart => exact ⟨N3, by omega, by go_num, by rw [← hN3]; simp, 0, by rw [HW1.out]; rfl⟩
    case round =>
      obtain ⟨j, hj, rfl, hnone, m, rfl⟩ := hrel
      have HNO := Lib.hid hnone
      clear hnone
      cases j with
      | zero =>
        have HX := Lib.hid (show lastC a o.cells = 0 from lastC_none a o.cells (fun x hx => HNO.out x (by simpa using hx)))
        rw [HX.out] at HV
        by_cases hx : v = 0
        · subst hx
          have HX2 := HV.out.trans (decide_eq_true rfl)
          go_wp2_with fail
          go_ret
          exact ⟨by first | rfl | (rw [HX2]; rfl) | simp [HX2], below_drewN HB.out _⟩
        · have hx2 : ¬ (0 : Int) = (v : Int) := by omega
          have hx3 : ¬ (v : Int) = 0 := by omega
          have hxb : ((v : Int) == 0) = false := by rw [beq_eq_false_iff_ne]; exact hx3
          have HX2 := HV.out.trans (decide_eq_false hx2)
          go_wp2_with fail
          go_ret
          exact ⟨by first | rfl | (rw [HX2]; rfl) | simp [HX2, hx], below_drewN HB.out _⟩
      | succ j =>
        have hj0 : (0 : Int) ≤ j := by omega
        have hjn : (j : Int) < N3 := by omega
        have hja : j < o.cells.length := by rw [hN3]; omega
        have hjj : ((j + 1 : Nat) : Int) - 1 = j := by omega
        rw [hjj]
        have hwr : IntKind.i64.wrap ((j : Int) - 1) = (j : Int) - 1 := IntWalk.i64_in _ (by omega)
        obtain ⟨g, off, rfl, d0, d1⟩ := HQ3.out j hja
        have d0 := HK.out _ _ d0
        have d1 := HK.out _ _ d1
        have HHIT := Lib.hid (fun h => lastC_hit a o.cells j hja h HNO.out)
        have HNX := Lib.hid (show ¬ (o.cells[j]).1 = (a : Int) → ∀ x ∈ o.cells.drop j, ¬ x.1 = (a : Int) from fun h x hx => by
          rw [List.drop_eq_getElem_cons hja] at hx
          rcases List.mem_cons.1 hx with rfl | hx
          · exact h
          · exact HNO.out x hx)
        generalize o.cells[j] = x at *
        obtain ⟨x1, x2⟩ := x
        simp only at d0 d1 HHIT HNX
        by_cases hx : x1 = (a : Int)
        · have HX := HHIT.out hx
          rw [HX] at HV
          subst hx
          clear HHIT HNX
          by_cases hy : x2 = (v : Int)
          · have HX2 := HV.out.trans (decide_eq_true hy)
            subst hy
            go_wp2_with fail
            go_quiet (fail)
            go_wp2_with fail
            go_quiet (fail)
            go_wp2_with fail
            go_ret
            exact ⟨by first | rfl | (rw [HX2]; rfl) | simp [HX2], below_drewN (below_drewN (below_drewN HB.out _) _) _⟩
          · have HX2 := HV.out.trans (decide_eq_false hy)
            have hyb : (x2 == (v : Int)) = false := by rw [beq_eq_false_iff_ne]; exact hy
            go_wp2_with fail
            go_quiet (fail)
            go_wp2_with fail
            go_quiet (fail)
            go_wp2_with fail
            go_ret
            exact ⟨by first | rfl | (rw [HX2]; rfl) | simp [HX2, hy], below_drewN (below_drewN (below_drewN HB.out _) _) _⟩
        · have HNX := Lib.hid (HNX.out hx)
          have hxb : (x1 == (a : Int)) = false := by rw [beq_eq_false_iff_ne]; exact hx
          go_wp2_with fail
          go_quiet (fail)
          go_wp2_with fail
          go_roundw
          case rel => exact ⟨j, by omega, by go_num, HNX.out, _, rfl⟩
          case measure => first | (simp [intOf]; done) | (simp [intOf]; omega)
  have e2 : (k == 2) = false := by rw [beq_eq_false_iff_ne]; exact k2
  by_cases k3 : k = 3
  · subst k3
    have HV := Lib.hid (show R = fltX o c v from by rw [HV.out]; rfl)
    by_cases c0 : 0 ≤ c
    · obtain ⟨ci, rfl⟩ := Int.eq_ofNat_of_zero_le c0
      by_cases cl : ci < N2
      · have cli : (ci : Int) < N2 := by omega
        obtain ⟨g, off, q, cp, rfl, d0, hrl⟩ := HQ2.out ci (by rw [hN2]; exact cl)
        have d0 := HK.out _ _ d0
        have HX := Lib.hid (flt_in o ci v (by rw [hN2]; exact cl))
        generalize o.faults[ci] = x at *
        have hw : IntKind.u64.wrap (x : Int) = x := by rw [IntKind.wrap_u64]; omega
        by_cases hx : x = v
        · have HX := HX.out.trans (decide_eq_true hx)
          clear HI HR HO2 HQ1 HQ2 HQ3 HK lens
          subst hx
          go_enter Try.func20, Try.ntmps20
          go_wp2_with fail
          go_quiet (fail)
          go_wp2_with fail
          go_ret
          exact ⟨by rw [HV.out, HX]; first | rfl | simp, below_drewN HB.out _⟩
        have hxi : ¬ (x : Int) = (v : Int) := by omega
        have hxb : ((x : Int) == (v : Int)) = false := by rw [beq_eq_false_iff_ne]; exact hxi
        have HX := HX.out.trans (decide_eq_false hx)
        clear HI HR HO2 HQ1 HQ2 HQ3 HK lens
        go_enter Try.func20, Try.ntmps20
        go_wp2_with fail
        go_quiet (fail)
        go_wp2_with fail
        go_ret
        exact ⟨by rw [HV.out, HX]; first | rfl | simp [hx], below_drewN HB.out _⟩
      · have cli : ¬ (ci : Int) < N2 := by omega
        have cld : decide ((ci : Int) < N2) = false := decide_eq_false cli
        have HX := (show fltX o ci v = false from by unfold fltX; rw [hN2, cld]; simp)
        clear HI HR HO2 HQ1 HQ2 HQ3 HK lens
        go_enter Try.func20, Try.ntmps20
        go_wp2_with fail
        go_quiet (fail)
        go_wp2_with fail
        go_ret
        exact ⟨by rw [HV.out, HX]; first | rfl | simp, below_drewN HB.out _⟩
    · have cld : decide ((0 : Int) ≤ c) = false := decide_eq_false c0
      have HX := (show fltX o c v = false from by unfold fltX; rw [cld]; rfl)
      clear HI HR HO2 HQ1 HQ2 HQ3 HK lens
      go_enter Try.func20, Try.ntmps20
      go_wp2_with fail
      go_quiet (fail)
      go_wp2_with fail
      go_ret
      exact ⟨by rw [HV.out, HX]; first | rfl | simp, below_drewN HB.out _⟩
  have e3 : (k == 3) = false := by rw [beq_eq_false_iff_ne]; exact k3
  by_cases k7 : k = 7
  · subst k7
    have HV := Lib.hid (show R = true from by rw [HV.out]; rfl)
    clear HI HR HO2 HQ1 HQ2 HQ3 HK lens
    go_enter Try.func20, Try.ntmps20
    go_wp2_with fail
    go_ret
    exact ⟨by rw [HV.out]; rfl, HB.out⟩
  have e7 : (k == 7) = false := by rw [beq_eq_false_iff_ne]; exact k7
  have HV := Lib.hid (show R = argsB k (holdsL o args) from by rw [HV.out]; unfold holdsX; rw [if_neg k1, if_neg k2, if_neg k3, if_neg k7])
  clear HQ1 HQ2 HQ3 HK
  by_cases h6 : k = 6 ∧ ln = 1
  · obtain ⟨rfl, rfl⟩ := h6
    obtain ⟨u, rfl⟩ := List.length_eq_one_iff.1 HLEN.out
    have hpart := HR.out.part (j := 0) (by simp)
    simp only [List.getElem_cons_zero, Nat.zero_mul, Nat.add_zero] at hpart
    obtain ⟨g, off, k', co', rg', ad', va', q', l', cp', rfl, d0, d1, d2, d3, d4, d5, hu⟩ := hpart
    have HC := Lib.hid (HI.out u (by simp) _ S _ _ (CT.At.drew hu) (OutAt.drew HO2.out))
    have HV2 := Lib.hid (show R = !holdsT o u from by rw [HV.out]; rfl)
    clear hu lens HI HV
    generalize holdsT o u = X at *
    go_enter Try.func20, Try.ntmps20
    go_wp2_with fail
    refine wp_region_held_drew (S := (fun w' => w'.cell? ⟨w.heap.size, 5, none⟩ = some (.slice (some ⟨g, off, none⟩) 1 cap) ∧ w'.cell? ⟨w.heap.size + 1, 0, none⟩ = some (.slice p1 N1 c1) ∧ w'.cell? ⟨w.heap.size + 1, 1, none⟩ = some (.slice p2 N2 c2) ∧ w'.cell? ⟨w.heap.size + 1, 2, none⟩ = some (.slice p3 N3 c3) ∧ w'.cell? ⟨g, off, none⟩ = some (.int .i64 k') ∧ w'.cell? ⟨g, off + 1, none⟩ = some (.int .i64 co') ∧ w'.cell? ⟨g, off + 2, none⟩ = some (.int .i64 rg') ∧ w'.cell? ⟨g, off + 3, none⟩ = some (.int .u64 ad') ∧ w'.cell? ⟨g, off + 4, none⟩ = some (.int .u64 va') ∧ w'.cell? ⟨g, off + 5, none⟩ = some (.slice q' l' cp'))) (by kernel_rfl) (by (try dsimp only); exact ⟨n5, m0, m1, m2, d0, d1, d2, d3, d4, d5⟩) (fun hHeld => ?_)
    refine wpAnyH_take (i := 0) (oi := ⟨some 118, _, _, _, _, _⟩) (v := ?_) rfl (by kernel_rfl) (by kernel_rfl) (by kernel_rfl) (fun _ _ _ h => h) (Or.inl ⟨by rfl, ?_⟩) (by assumption) ?_
    rotate_left
    · (intro w hSw; (try dsimp only at hSw); go_simp; try with_reducible rfl)
    simp only [Act.put, List.setIfInBounds_toArray, List.set_cons_zero, List.set_cons_succ]
    refine wpAnyH_take (i := 1) (oi := ⟨some 119, _, _, _, _, _⟩) (v := ?_) rfl (by kernel_rfl) (by kernel_rfl) (by kernel_rfl) (fun _ _ _ h => h) (Or.inl ⟨by rfl, ?_⟩) (by assumption) ?_
    rotate_left
    · (intro w hSw; (try dsimp only at hSw); go_simp; try with_reducible rfl)
    simp only [Act.put, List.setIfInBounds_toArray, List.set_cons_zero, List.set_cons_succ]
    refine wpAnyH_take (i := 2) (oi := ⟨some 120, _, _, _, _, _⟩) (v := ?_) rfl (by kernel_rfl) (by kernel_rfl) (by kernel_rfl) (fun _ _ _ h => h) (Or.inl ⟨by rfl, ?_⟩) (by assumption) ?_
    rotate_left
    · (intro w hSw; (try dsimp only at hSw); go_simp; try with_reducible rfl)
    simp only [Act.put, List.setIfInBounds_toArray, List.set_cons_zero, List.set_cons_succ]
    refine wpAnyH_take (i := 3) (oi := ⟨some 121, _, _, _, _, _⟩) (v := ?_) rfl (by kernel_rfl) (by kernel_rfl) (by kernel_rfl) (fun _ _ _ h => h) (Or.inl ⟨by rfl, ?_⟩) (by assumption) ?_
    rotate_left
    · (intro w hSw; (try dsimp only at hSw); go_simp; try with_reducible rfl)
    simp only [Act.put, List.setIfInBounds_toArray, List.set_cons_zero, List.set_cons_succ]
    refine wpAnyH_take (i := 4) (oi := ⟨some 122, _, _, _, _, _⟩) (v := ?_) rfl (by kernel_rfl) (by kernel_rfl) (by kernel_rfl) (fun _ _ _ h => h) (Or.inl ⟨by rfl, ?_⟩) (by assumption) ?_
    rotate_left
    · (intro w hSw; (try dsimp only at hSw); go_simp; try with_reducible rfl)
    simp only [Act.put, List.setIfInBounds_toArray, List.set_cons_zero, List.set_cons_succ]
    refine wpAnyH_take (i := 5) (oi := ⟨some 123, _, _, _, _, _⟩) (v := ?_) rfl (by kernel_rfl) (by kernel_rfl) (by kernel_rfl) (fun _ _ _ h => h) (Or.inl ⟨by rfl, ?_⟩) (by assumption) ?_
    rotate_left
    · (intro w hSw; (try dsimp only at hSw); go_simp; try with_reducible rfl)
    simp only [Act.put, List.setIfInBounds_toArray, List.set_cons_zero, List.set_cons_succ]
    refine wpAnyH_take (i := 6) (oi := ⟨some 124, _, _, _, _, _⟩) (v := ?_) rfl (by kernel_rfl) (by kernel_rfl) (by kernel_rfl) (fun _ _ _ h => h) (Or.inl ⟨by rfl, ?_⟩) (by assumption) ?_
    rotate_left
    · (intro w hSw; (try dsimp only at hSw); go_simp; try with_reducible rfl)
    simp only [Act.put, List.setIfInBounds_toArray, List.set_cons_zero, List.set_cons_succ]
    refine wpAnyH_take (i := 7) (oi := ⟨some 125, _, _, _, _, _⟩) (v := ?_) rfl (by kernel_rfl) (by kernel_rfl) (by kernel_rfl) (fun _ _ _ h => h) (Or.inl ⟨by rfl, ?_⟩) (by assumption) ?_
    rotate_left
    · (intro w hSw; (try dsimp only at hSw); go_simp; try with_reducible rfl)
    simp only [Act.put, List.setIfInBounds_toArray, List.set_cons_zero, List.set_cons_succ]
    refine wpAnyH_ready (rs := [8]) (by kernel_rfl) (by simp) ?_
    refine AllReadyH.cons (o := ⟨some 126, _, _, _, _, _⟩) rfl (fun K hK => ?_) AllReadyH.nil
    go_simp
    go_at_call 20; refine (HC.out).mono ?_; rintro e w3 ⟨rfl, hb⟩; have HB3 := Lib.hid (below_trans HB.out.drew hb); have n5 := cell_below_drew n5 hb; have m0 := cell_below_drew m0 hb; have m1 := cell_below_drew m1 hb; have m2 := cell_below_drew m2 hb; have d0 := cell_below_drew d0 hb; have d1 := cell_below_drew d1 hb; have d2 := cell_below_drew d2 hb; have d3 := cell_below_drew d3 hb; have d4 := cell_below_drew d4 hb; have d5 := cell_below_drew d5 hb; clear hb
    refine hK.out _ _ (by (try dsimp only); exact ⟨n5, m0, m1, m2, d0, d1, d2, d3, d4, d5⟩) ?_
    clear hK K hHeld
    intro hHeld
    try simp only [Act.put, List.setIfInBounds_toArray, List.set_cons_zero, List.set_cons_succ]
    refine wpAnyH_take (i := 9) (oi := ⟨some 127, _, _, _, _, _⟩) (v := ?_) rfl (by kernel_rfl) (by kernel_rfl) (by kernel_rfl) (fun _ _ _ h => h) (Or.inl ⟨by rfl, ?_⟩) (by assumption) ?_
    rotate_left
    · (intro w hSw; (try dsimp only at hSw); go_simp; try with_reducible rfl)
    simp only [Act.put, List.setIfInBounds_toArray, List.set_cons_zero, List.set_cons_succ]
    refine wpAnyH_take (i := 10) (oi := ⟨some 128, _, _, _, _, _⟩) (v := ?_) rfl (by kernel_rfl) (by kernel_rfl) (by kernel_rfl) (fun _ _ _ h => h) (Or.inl ⟨by rfl, ?_⟩) (by assumption) ?_
    rotate_left
    · (intro w hSw; (try dsimp only at hSw); go_simp; try with_reducible rfl)
    simp only [Act.put, List.setIfInBounds_toArray, List.set_cons_zero, List.set_cons_succ]
    refine wpAnyH_take (i := 11) (oi := ⟨some 4, _, _, _, _, _⟩) (v := ?_) rfl (by kernel_rfl) (by kernel_rfl) (by kernel_rfl) (fun _ _ _ h => h) (Or.inl ⟨by rfl, ?_⟩) (by assumption) ?_
    rotate_left
    · (intro w hSw; (try dsimp only at hSw); go_simp; try with_reducible rfl)
    simp only [Act.put, List.setIfInBounds_toArray, List.set_cons_zero, List.set_cons_succ]
    refine wpAnyH_done (by kernel_rfl) ?_ _
    go_wp2_with fail
    go_ret
    exact ⟨by rw [HV2.out]; rfl, HB3.out⟩
  by_cases h4 : k = 4 ∧ ln = 2
  · obtain ⟨rfl, rfl⟩ := h4
    obtain ⟨u, t, rfl⟩ := list2o HLEN.out
    have hpart := HR.out.part (j := 0) (by simp)
    simp only [List.getElem_cons_zero, Nat.zero_mul, Nat.add_zero] at hpart
    obtain ⟨g, off, k', co', rg', ad', va', q', l', cp', rfl, d0, d1, d2, d3, d4, d5, hu⟩ := hpart
    have hpart := HR.out.part (j := 1) (by simp)
    simp only [List.getElem_cons_zero, List.getElem_cons_succ, Nat.one_mul] at hpart
    obtain ⟨g2, off2, j0, j1, j2, j3, j4, jp, jl, jc, hgo, f0, f1, f2, f3, f4, f5, ht⟩ := hpart
    injection hgo with hgo
    injection hgo with hg1 hg2
    subst hg1 hg2
    have HC := Lib.hid (HI.out u (by simp) _ S _ _ (CT.At.drew hu) (OutAt.drew HO2.out))
    have HD := Lib.hid (HI.out t (by simp))
    have HT := Lib.hid ht
    have HV2 := Lib.hid (show R = (holdsT o u && holdsT o t) from by rw [HV.out]; rfl)
    clear hu ht lens HI HV
    generalize holdsT o u = X at *
    generalize holdsT o t = Y at *
    cases X
    · skip
      go_enter Try.func20, Try.ntmps20
      go_wp2_with fail
      refine wp_region_held_drew (S := (fun w' => w'.cell? ⟨w.heap.size, 5, none⟩ = some (.slice (some ⟨g, off, none⟩) 2 cap) ∧ w'.cell? ⟨w.heap.size + 1, 0, none⟩ = some (.slice p1 N1 c1) ∧ w'.cell? ⟨w.heap.size + 1, 1, none⟩ = some (.slice p2 N2 c2) ∧ w'.cell? ⟨w.heap.size + 1, 2, none⟩ = some (.slice p3 N3 c3) ∧ w'.cell? ⟨g, off, none⟩ = some (.int .i64 k') ∧ w'.cell? ⟨g, off + 1, none⟩ = some (.int .i64 co') ∧ w'.cell? ⟨g, off + 2, none⟩ = some (.int .i64 rg') ∧ w'.cell? ⟨g, off + 3, none⟩ = some (.int .u64 ad') ∧ w'.cell? ⟨g, off + 4, none⟩ = some (.int .u64 va') ∧ w'.cell? ⟨g, off + 5, none⟩ = some (.slice q' l' cp') ∧ w'.cell? ⟨g, off + 6, none⟩ = some (.int .i64 j0) ∧ w'.cell? ⟨g, off + 6 + 1, none⟩ = some (.int .i64 j1) ∧ w'.cell? ⟨g, off + 6 + 2, none⟩ = some (.int .i64 j2) ∧ w'.cell? ⟨g, off + 6 + 3, none⟩ = some (.int .u64 j3) ∧ w'.cell? ⟨g, off + 6 + 4, none⟩ = some (.int .u64 j4) ∧ w'.cell? ⟨g, off + 6 + 5, none⟩ = some (.slice jp jl jc))) (by kernel_rfl) (by (try dsimp only); exact ⟨n5, m0, m1, m2, d0, d1, d2, d3, d4, d5, f0, f1, f2, f3, f4, f5⟩) (fun hHeld => ?_)
      refine wpAnyH_take (i := 0) (oi := ⟨some 131, _, _, _, _, _⟩) (v := ?_) rfl (by kernel_rfl) (by kernel_rfl) (by kernel_rfl) (fun _ _ _ h => h) (Or.inl ⟨by rfl, ?_⟩) (by assumption) ?_
      rotate_left
      · (intro w hSw; (try dsimp only at hSw); go_simp; try with_reducible rfl)
      simp only [Act.put, List.setIfInBounds_toArray, List.set_cons_zero, List.set_cons_succ]
      refine wpAnyH_take (i := 1) (oi := ⟨some 132, _, _, _, _, _⟩) (v := ?_) rfl (by kernel_rfl) (by kernel_rfl) (by kernel_rfl) (fun _ _ _ h => h) (Or.inl ⟨by rfl, ?_⟩) (by assumption) ?_
      rotate_left
      · (intro w hSw; (try dsimp only at hSw); go_simp; try with_reducible rfl)
      simp only [Act.put, List.setIfInBounds_toArray, List.set_cons_zero, List.set_cons_succ]
      refine wpAnyH_take (i := 2) (oi := ⟨some 133, _, _, _, _, _⟩) (v := ?_) rfl (by kernel_rfl) (by kernel_rfl) (by kernel_rfl) (fun _ _ _ h => h) (Or.inl ⟨by rfl, ?_⟩) (by assumption) ?_
      rotate_left
      · (intro w hSw; (try dsimp only at hSw); go_simp; try with_reducible rfl)
      simp only [Act.put, List.setIfInBounds_toArray, List.set_cons_zero, List.set_cons_succ]
      refine wpAnyH_take (i := 3) (oi := ⟨some 134, _, _, _, _, _⟩) (v := ?_) rfl (by kernel_rfl) (by kernel_rfl) (by kernel_rfl) (fun _ _ _ h => h) (Or.inl ⟨by rfl, ?_⟩) (by assumption) ?_
      rotate_left
      · (intro w hSw; (try dsimp only at hSw); go_simp; try with_reducible rfl)
      simp only [Act.put, List.setIfInBounds_toArray, List.set_cons_zero, List.set_cons_succ]
      refine wpAnyH_take (i := 4) (oi := ⟨some 135, _, _, _, _, _⟩) (v := ?_) rfl (by kernel_rfl) (by kernel_rfl) (by kernel_rfl) (fun _ _ _ h => h) (Or.inl ⟨by rfl, ?_⟩) (by assumption) ?_
      rotate_left
      · (intro w hSw; (try dsimp only at hSw); go_simp; try with_reducible rfl)
      simp only [Act.put, List.setIfInBounds_toArray, List.set_cons_zero, List.set_cons_succ]
      refine wpAnyH_take (i := 5) (oi := ⟨some 136, _, _, _, _, _⟩) (v := ?_) rfl (by kernel_rfl) (by kernel_rfl) (by kernel_rfl) (fun _ _ _ h => h) (Or.inl ⟨by rfl, ?_⟩) (by assumption) ?_
      rotate_left
      · (intro w hSw; (try dsimp only at hSw); go_simp; try with_reducible rfl)
      simp only [Act.put, List.setIfInBounds_toArray, List.set_cons_zero, List.set_cons_succ]
      refine wpAnyH_take (i := 6) (oi := ⟨some 137, _, _, _, _, _⟩) (v := ?_) rfl (by kernel_rfl) (by kernel_rfl) (by kernel_rfl) (fun _ _ _ h => h) (Or.inl ⟨by rfl, ?_⟩) (by assumption) ?_
      rotate_left
      · (intro w hSw; (try dsimp only at hSw); go_simp; try with_reducible rfl)
      simp only [Act.put, List.setIfInBounds_toArray, List.set_cons_zero, List.set_cons_succ]
      refine wpAnyH_take (i := 7) (oi := ⟨some 138, _, _, _, _, _⟩) (v := ?_) rfl (by kernel_rfl) (by kernel_rfl) (by kernel_rfl) (fun _ _ _ h => h) (Or.inl ⟨by rfl, ?_⟩) (by assumption) ?_
      rotate_left
      · (intro w hSw; (try dsimp only at hSw); go_simp; try with_reducible rfl)
      simp only [Act.put, List.setIfInBounds_toArray, List.set_cons_zero, List.set_cons_succ]
      refine wpAnyH_ready (rs := [8]) (by kernel_rfl) (by simp) ?_
      refine AllReadyH.cons (o := ⟨some 139, _, _, _, _, _⟩) rfl (fun K hK => ?_) AllReadyH.nil
      go_simp
      go_at_call 20; refine (HC.out).mono ?_; rintro e w3 ⟨rfl, hb⟩; have HB3 := Lib.hid (below_trans HB.out.drew hb); have n5 := cell_below_drew n5 hb; have m0 := cell_below_drew m0 hb; have m1 := cell_below_drew m1 hb; have m2 := cell_below_drew m2 hb; have d0 := cell_below_drew d0 hb; have d1 := cell_below_drew d1 hb; have d2 := cell_below_drew d2 hb; have d3 := cell_below_drew d3 hb; have d4 := cell_below_drew d4 hb; have d5 := cell_below_drew d5 hb; have f0 := cell_below_drew f0 hb; have f1 := cell_below_drew f1 hb; have f2 := cell_below_drew f2 hb; have f3 := cell_below_drew f3 hb; have f4 := cell_below_drew f4 hb; have f5 := cell_below_drew f5 hb; clear hb
      refine hK.out _ _ (by (try dsimp only); exact ⟨n5, m0, m1, m2, d0, d1, d2, d3, d4, d5, f0, f1, f2, f3, f4, f5⟩) ?_
      clear hK K hHeld
      intro hHeld
      try simp only [Act.put, List.setIfInBounds_toArray, List.set_cons_zero, List.set_cons_succ]
      refine wpAnyH_take (i := 9) (oi := ⟨some 140, _, _, _, _, _⟩) (v := ?_) rfl (by kernel_rfl) (by kernel_rfl) (by kernel_rfl) (fun _ _ _ h => h) (Or.inl ⟨by rfl, ?_⟩) (by assumption) ?_
      rotate_left
      · (intro w hSw; (try dsimp only at hSw); go_simp; try with_reducible rfl)
      simp only [Act.put, List.setIfInBounds_toArray, List.set_cons_zero, List.set_cons_succ]
      refine wpAnyH_take (i := 10) (oi := ⟨some 141, _, _, _, _, _⟩) (v := ?_) rfl (by kernel_rfl) (by kernel_rfl) (by kernel_rfl) (fun _ _ _ h => h) (Or.inl ⟨by rfl, ?_⟩) (by assumption) ?_
      rotate_left
      · (intro w hSw; (try dsimp only at hSw); go_simp; try with_reducible rfl)
      simp only [Act.put, List.setIfInBounds_toArray, List.set_cons_zero, List.set_cons_succ]
      refine wpAnyH_take (i := 11) (oi := ⟨some 142, _, _, _, _, _⟩) (v := undef) rfl (by kernel_rfl) (by kernel_rfl) (by kernel_rfl) (fun _ _ _ h => h) (Or.inr ⟨by rfl, rfl⟩) (by assumption) ?_
      simp only [Act.put, List.setIfInBounds_toArray, List.set_cons_zero, List.set_cons_succ]
      refine wpAnyH_take (i := 12) (oi := ⟨some 143, _, _, _, _, _⟩) (v := undef) rfl (by kernel_rfl) (by kernel_rfl) (by kernel_rfl) (fun _ _ _ h => h) (Or.inr ⟨by rfl, rfl⟩) (by assumption) ?_
      simp only [Act.put, List.setIfInBounds_toArray, List.set_cons_zero, List.set_cons_succ]
      refine wpAnyH_take (i := 13) (oi := ⟨some 144, _, _, _, _, _⟩) (v := undef) rfl (by kernel_rfl) (by kernel_rfl) (by kernel_rfl) (fun _ _ _ h => h) (Or.inr ⟨by rfl, rfl⟩) (by assumption) ?_
      simp only [Act.put, List.setIfInBounds_toArray, List.set_cons_zero, List.set_cons_succ]
      refine wpAnyH_take (i := 14) (oi := ⟨some 145, _, _, _, _, _⟩) (v := undef) rfl (by kernel_rfl) (by kernel_rfl) (by kernel_rfl) (fun _ _ _ h => h) (Or.inr ⟨by rfl, rfl⟩) (by assumption) ?_
      simp only [Act.put, List.setIfInBounds_toArray, List.set_cons_zero, List.set_cons_succ]
      refine wpAnyH_take (i := 15) (oi := ⟨some 146, _, _, _, _, _⟩) (v := undef) rfl (by kernel_rfl) (by kernel_rfl) (by kernel_rfl) (fun _ _ _ h => h) (Or.inr ⟨by rfl, rfl⟩) (by assumption) ?_
      simp only [Act.put, List.setIfInBounds_toArray, List.set_cons_zero, List.set_cons_succ]
      refine wpAnyH_take (i := 16) (oi := ⟨some 147, _, _, _, _, _⟩) (v := undef) rfl (by kernel_rfl) (by kernel_rfl) (by kernel_rfl) (fun _ _ _ h => h) (Or.inr ⟨by rfl, rfl⟩) (by assumption) ?_
      simp only [Act.put, List.setIfInBounds_toArray, List.set_cons_zero, List.set_cons_succ]
      refine wpAnyH_take (i := 17) (oi := ⟨some 148, _, _, _, _, _⟩) (v := ?_) rfl (by kernel_rfl) (by kernel_rfl) (by kernel_rfl) (fun _ _ _ h => h) (Or.inl ⟨by rfl, ?_⟩) (by assumption) ?_
      rotate_left
      · (intro w hSw; (try dsimp only at hSw); go_simp; try with_reducible rfl)
      simp only [Act.put, List.setIfInBounds_toArray, List.set_cons_zero, List.set_cons_succ]
      refine wpAnyH_take (i := 18) (oi := ⟨some 4, _, _, _, _, _⟩) (v := ?_) rfl (by kernel_rfl) (by kernel_rfl) (by kernel_rfl) (fun _ _ _ h => h) (Or.inl ⟨by rfl, ?_⟩) (by assumption) ?_
      rotate_left
      · (intro w hSw; (try dsimp only at hSw); go_simp; try with_reducible rfl)
      simp only [Act.put, List.setIfInBounds_toArray, List.set_cons_zero, List.set_cons_succ]
      refine wpAnyH_done (by kernel_rfl) ?_ _
      go_wp2_with fail
      go_ret
      exact ⟨by rw [HV2.out]; cases Y <;> rfl, HB3.out⟩
    · skip
      go_enter Try.func20, Try.ntmps20
      go_wp2_with fail
      refine wp_region_held_drew (S := (fun w' => w'.cell? ⟨w.heap.size, 5, none⟩ = some (.slice (some ⟨g, off, none⟩) 2 cap) ∧ w'.cell? ⟨w.heap.size + 1, 0, none⟩ = some (.slice p1 N1 c1) ∧ w'.cell? ⟨w.heap.size + 1, 1, none⟩ = some (.slice p2 N2 c2) ∧ w'.cell? ⟨w.heap.size + 1, 2, none⟩ = some (.slice p3 N3 c3) ∧ w'.cell? ⟨g, off, none⟩ = some (.int .i64 k') ∧ w'.cell? ⟨g, off + 1, none⟩ = some (.int .i64 co') ∧ w'.cell? ⟨g, off + 2, none⟩ = some (.int .i64 rg') ∧ w'.cell? ⟨g, off + 3, none⟩ = some (.int .u64 ad') ∧ w'.cell? ⟨g, off + 4, none⟩ = some (.int .u64 va') ∧ w'.cell? ⟨g, off + 5, none⟩ = some (.slice q' l' cp') ∧ w'.cell? ⟨g, off + 6, none⟩ = some (.int .i64 j0) ∧ w'.cell? ⟨g, off + 6 + 1, none⟩ = some (.int .i64 j1) ∧ w'.cell? ⟨g, off + 6 + 2, none⟩ = some (.int .i64 j2) ∧ w'.cell? ⟨g, off + 6 + 3, none⟩ = some (.int .u64 j3) ∧ w'.cell? ⟨g, off + 6 + 4, none⟩ = some (.int .u64 j4) ∧ w'.cell? ⟨g, off + 6 + 5, none⟩ = some (.slice jp jl jc))) (by kernel_rfl) (by (try dsimp only); exact ⟨n5, m0, m1, m2, d0, d1, d2, d3, d4, d5, f0, f1, f2, f3, f4, f5⟩) (fun hHeld => ?_)
      refine wpAnyH_take (i := 0) (oi := ⟨some 131, _, _, _, _, _⟩) (v := ?_) rfl (by kernel_rfl) (by kernel_rfl) (by kernel_rfl) (fun _ _ _ h => h) (Or.inl ⟨by rfl, ?_⟩) (by assumption) ?_
      rotate_left
      · (intro w hSw; (try dsimp only at hSw); go_simp; try with_reducible rfl)
      simp only [Act.put, List.setIfInBounds_toArray, List.set_cons_zero, List.set_cons_succ]
      refine wpAnyH_take (i := 1) (oi := ⟨some 132, _, _, _, _, _⟩) (v := ?_) rfl (by kernel_rfl) (by kernel_rfl) (by kernel_rfl) (fun _ _ _ h => h) (Or.inl ⟨by rfl, ?_⟩) (by assumption) ?_
      rotate_left
      · (intro w hSw; (try dsimp only at hSw); go_simp; try with_reducible rfl)
      simp only [Act.put, List.setIfInBounds_toArray, List.set_cons_zero, List.set_cons_succ]
      refine wpAnyH_take (i := 2) (oi := ⟨some 133, _, _, _, _, _⟩) (v := ?_) rfl (by kernel_rfl) (by kernel_rfl) (by kernel_rfl) (fun _ _ _ h => h) (Or.inl ⟨by rfl, ?_⟩) (by assumption) ?_
      rotate_left
      · (intro w hSw; (try dsimp only at hSw); go_simp; try with_reducible rfl)
      simp only [Act.put, List.setIfInBounds_toArray, List.set_cons_zero, List.set_cons_succ]
      refine wpAnyH_take (i := 3) (oi := ⟨some 134, _, _, _, _, _⟩) (v := ?_) rfl (by kernel_rfl) (by kernel_rfl) (by kernel_rfl) (fun _ _ _ h => h) (Or.inl ⟨by rfl, ?_⟩) (by assumption) ?_
      rotate_left
      · (intro w hSw; (try dsimp only at hSw); go_simp; try with_reducible rfl)
      simp only [Act.put, List.setIfInBounds_toArray, List.set_cons_zero, List.set_cons_succ]
      refine wpAnyH_take (i := 4) (oi := ⟨some 135, _, _, _, _, _⟩) (v := ?_) rfl (by kernel_rfl) (by kernel_rfl) (by kernel_rfl) (fun _ _ _ h => h) (Or.inl ⟨by rfl, ?_⟩) (by assumption) ?_
      rotate_left
      · (intro w hSw; (try dsimp only at hSw); go_simp; try with_reducible rfl)
      simp only [Act.put, List.setIfInBounds_toArray, List.set_cons_zero, List.set_cons_succ]
      refine wpAnyH_take (i := 5) (oi := ⟨some 136, _, _, _, _, _⟩) (v := ?_) rfl (by kernel_rfl) (by kernel_rfl) (by kernel_rfl) (fun _ _ _ h => h) (Or.inl ⟨by rfl, ?_⟩) (by assumption) ?_
      rotate_left
      · (intro w hSw; (try dsimp only at hSw); go_simp; try with_reducible rfl)
      simp only [Act.put, List.setIfInBounds_toArray, List.set_cons_zero, List.set_cons_succ]
      refine wpAnyH_take (i := 6) (oi := ⟨some 137, _, _, _, _, _⟩) (v := ?_) rfl (by kernel_rfl) (by kernel_rfl) (by kernel_rfl) (fun _ _ _ h => h) (Or.inl ⟨by rfl, ?_⟩) (by assumption) ?_
      rotate_left
      · (intro w hSw; (try dsimp only at hSw); go_simp; try with_reducible rfl)
      simp only [Act.put, List.setIfInBounds_toArray, List.set_cons_zero, List.set_cons_succ]
      refine wpAnyH_take (i := 7) (oi := ⟨some 138, _, _, _, _, _⟩) (v := ?_) rfl (by kernel_rfl) (by kernel_rfl) (by kernel_rfl) (fun _ _ _ h => h) (Or.inl ⟨by rfl, ?_⟩) (by assumption) ?_
      rotate_left
      · (intro w hSw; (try dsimp only at hSw); go_simp; try with_reducible rfl)
      simp only [Act.put, List.setIfInBounds_toArray, List.set_cons_zero, List.set_cons_succ]
      refine wpAnyH_ready (rs := [8]) (by kernel_rfl) (by simp) ?_
      refine AllReadyH.cons (o := ⟨some 139, _, _, _, _, _⟩) rfl (fun K hK => ?_) AllReadyH.nil
      go_simp
      go_at_call 20; refine (HC.out).mono ?_; rintro e w3 ⟨rfl, hb⟩; have HB3 := Lib.hid (below_trans HB.out.drew hb); have HT3 := Lib.hid (HT.out.drew.below hb); have HO3 := Lib.hid ((OutAt.drew HO2.out).below hb); have n5 := cell_below_drew n5 hb; have m0 := cell_below_drew m0 hb; have m1 := cell_below_drew m1 hb; have m2 := cell_below_drew m2 hb; have d0 := cell_below_drew d0 hb; have d1 := cell_below_drew d1 hb; have d2 := cell_below_drew d2 hb; have d3 := cell_below_drew d3 hb; have d4 := cell_below_drew d4 hb; have d5 := cell_below_drew d5 hb; have f0 := cell_below_drew f0 hb; have f1 := cell_below_drew f1 hb; have f2 := cell_below_drew f2 hb; have f3 := cell_below_drew f3 hb; have f4 := cell_below_drew f4 hb; have f5 := cell_below_drew f5 hb; clear hb
      refine hK.out _ _ (by (try dsimp only); exact ⟨n5, m0, m1, m2, d0, d1, d2, d3, d4, d5, f0, f1, f2, f3, f4, f5⟩) ?_
      clear hK K hHeld
      intro hHeld
      try simp only [Act.put, List.setIfInBounds_toArray, List.set_cons_zero, List.set_cons_succ]
      refine wpAnyH_take (i := 9) (oi := ⟨some 140, _, _, _, _, _⟩) (v := ?_) rfl (by kernel_rfl) (by kernel_rfl) (by kernel_rfl) (fun _ _ _ h => h) (Or.inl ⟨by rfl, ?_⟩) (by assumption) ?_
      rotate_left
      · (intro w hSw; (try dsimp only at hSw); go_simp; try with_reducible rfl)
      simp only [Act.put, List.setIfInBounds_toArray, List.set_cons_zero, List.set_cons_succ]
      refine wpAnyH_take (i := 10) (oi := ⟨some 141, _, _, _, _, _⟩) (v := ?_) rfl (by kernel_rfl) (by kernel_rfl) (by kernel_rfl) (fun _ _ _ h => h) (Or.inl ⟨by rfl, ?_⟩) (by assumption) ?_
      rotate_left
      · (intro w hSw; (try dsimp only at hSw); go_simp; try with_reducible rfl)
      simp only [Act.put, List.setIfInBounds_toArray, List.set_cons_zero, List.set_cons_succ]
      refine wpAnyH_take (i := 11) (oi := ⟨some 142, _, _, _, _, _⟩) (v := ?_) rfl (by kernel_rfl) (by kernel_rfl) (by kernel_rfl) (fun _ _ _ h => h) (Or.inl ⟨by rfl, ?_⟩) (by assumption) ?_
      rotate_left
      · (intro w hSw; (try dsimp only at hSw); go_simp; try with_reducible rfl)
      simp only [Act.put, List.setIfInBounds_toArray, List.set_cons_zero, List.set_cons_succ]
      refine wpAnyH_take (i := 12) (oi := ⟨some 143, _, _, _, _, _⟩) (v := ?_) rfl (by kernel_rfl) (by kernel_rfl) (by kernel_rfl) (fun _ _ _ h => h) (Or.inl ⟨by rfl, ?_⟩) (by assumption) ?_
      rotate_left
      · (intro w hSw; (try dsimp only at hSw); go_simp; try with_reducible rfl)
      simp only [Act.put, List.setIfInBounds_toArray, List.set_cons_zero, List.set_cons_succ]
      refine wpAnyH_take (i := 13) (oi := ⟨some 144, _, _, _, _, _⟩) (v := ?_) rfl (by kernel_rfl) (by kernel_rfl) (by kernel_rfl) (fun _ _ _ h => h) (Or.inl ⟨by rfl, ?_⟩) (by assumption) ?_
      rotate_left
      · (intro w hSw; (try dsimp only at hSw); go_simp; try with_reducible rfl)
      simp only [Act.put, List.setIfInBounds_toArray, List.set_cons_zero, List.set_cons_succ]
      refine wpAnyH_take (i := 14) (oi := ⟨some 145, _, _, _, _, _⟩) (v := ?_) rfl (by kernel_rfl) (by kernel_rfl) (by kernel_rfl) (fun _ _ _ h => h) (Or.inl ⟨by rfl, ?_⟩) (by assumption) ?_
      rotate_left
      · (intro w hSw; (try dsimp only at hSw); go_simp; try with_reducible rfl)
      simp only [Act.put, List.setIfInBounds_toArray, List.set_cons_zero, List.set_cons_succ]
      refine wpAnyH_take (i := 15) (oi := ⟨some 146, _, _, _, _, _⟩) (v := ?_) rfl (by kernel_rfl) (by kernel_rfl) (by kernel_rfl) (fun _ _ _ h => h) (Or.inl ⟨by rfl, ?_⟩) (by assumption) ?_
      rotate_left
      · (intro w hSw; (try dsimp only at hSw); go_simp; try with_reducible rfl)
      simp only [Act.put, List.setIfInBounds_toArray, List.set_cons_zero, List.set_cons_succ]
      refine wpAnyH_ready (rs := [16]) (by kernel_rfl) (by simp) ?_
      refine AllReadyH.cons (o := ⟨some 147, _, _, _, _, _⟩) rfl (fun K hK => ?_) AllReadyH.nil
      go_simp
      go_at_call 20; refine (HD.out _ _ _ _ HT3.out HO3.out).mono ?_; rintro e w4 ⟨rfl, hb⟩; have HB4 := Lib.hid (below_trans HB3.out hb); have n5 := cell_below n5 hb; have m0 := cell_below m0 hb; have m1 := cell_below m1 hb; have m2 := cell_below m2 hb; have d0 := cell_below d0 hb; have d1 := cell_below d1 hb; have d2 := cell_below d2 hb; have d3 := cell_below d3 hb; have d4 := cell_below d4 hb; have d5 := cell_below d5 hb; have f0 := cell_below f0 hb; have f1 := cell_below f1 hb; have f2 := cell_below f2 hb; have f3 := cell_below f3 hb; have f4 := cell_below f4 hb; have f5 := cell_below f5 hb; clear hb
      refine hK.out _ _ (by (try dsimp only); exact ⟨n5, m0, m1, m2, d0, d1, d2, d3, d4, d5, f0, f1, f2, f3, f4, f5⟩) ?_
      clear hK K hHeld
      intro hHeld
      try simp only [Act.put, List.setIfInBounds_toArray, List.set_cons_zero, List.set_cons_succ]
      refine wpAnyH_take (i := 17) (oi := ⟨some 148, _, _, _, _, _⟩) (v := ?_) rfl (by kernel_rfl) (by kernel_rfl) (by kernel_rfl) (fun _ _ _ h => h) (Or.inl ⟨by rfl, ?_⟩) (by assumption) ?_
      rotate_left
      · (intro w hSw; (try dsimp only at hSw); go_simp; try with_reducible rfl)
      simp only [Act.put, List.setIfInBounds_toArray, List.set_cons_zero, List.set_cons_succ]
      refine wpAnyH_take (i := 18) (oi := ⟨some 4, _, _, _, _, _⟩) (v := ?_) rfl (by kernel_rfl) (by kernel_rfl) (by kernel_rfl) (fun _ _ _ h => h) (Or.inl ⟨by rfl, ?_⟩) (by assumption) ?_
      rotate_left
      · (intro w hSw; (try dsimp only at hSw); go_simp; try with_reducible rfl)
      simp only [Act.put, List.setIfInBounds_toArray, List.set_cons_zero, List.set_cons_succ]
      refine wpAnyH_done (by kernel_rfl) ?_ _
      go_wp2_with fail
      go_ret
      exact ⟨by rw [HV2.out]; cases Y <;> rfl, HB4.out⟩
  by_cases h5 : k = 5 ∧ ln = 2
  · obtain ⟨rfl, rfl⟩ := h5
    obtain ⟨u, t, rfl⟩ := list2o HLEN.out
    have hpart := HR.out.part (j := 0) (by simp)
    simp only [List.getElem_cons_zero, Nat.zero_mul, Nat.add_zero] at hpart
    obtain ⟨g, off, k', co', rg', ad', va', q', l', cp', rfl, d0, d1, d2, d3, d4, d5, hu⟩ := hpart
    have hpart := HR.out.part (j := 1) (by simp)
    simp only [List.getElem_cons_zero, List.getElem_cons_succ, Nat.one_mul] at hpart
    obtain ⟨g2, off2, j0, j1, j2, j3, j4, jp, jl, jc, hgo, f0, f1, f2, f3, f4, f5, ht⟩ := hpart
    injection hgo with hgo
    injection hgo with hg1 hg2
    subst hg1 hg2
    have HC := Lib.hid (HI.out u (by simp) _ S _ _ (CT.At.drew hu) (OutAt.drew HO2.out))
    have HD := Lib.hid (HI.out t (by simp))
    have HT := Lib.hid ht
    have HV2 := Lib.hid (show R = (holdsT o u || holdsT o t) from by rw [HV.out]; rfl)
    clear hu ht lens HI HV
    generalize holdsT o u = X at *
    generalize holdsT o t = Y at *
    cases X
    · skip
      go_enter Try.func20, Try.ntmps20
      go_wp2_with fail
      refine wp_region_held_drew (S := (fun w' => w'.cell? ⟨w.heap.size, 5, none⟩ = some (.slice (some ⟨g, off, none⟩) 2 cap) ∧ w'.cell? ⟨w.heap.size + 1, 0, none⟩ = some (.slice p1 N1 c1) ∧ w'.cell? ⟨w.heap.size + 1, 1, none⟩ = some (.slice p2 N2 c2) ∧ w'.cell? ⟨w.heap.size + 1, 2, none⟩ = some (.slice p3 N3 c3) ∧ w'.cell? ⟨g, off, none⟩ = some (.int .i64 k') ∧ w'.cell? ⟨g, off + 1, none⟩ = some (.int .i64 co') ∧ w'.cell? ⟨g, off + 2, none⟩ = some (.int .i64 rg') ∧ w'.cell? ⟨g, off + 3, none⟩ = some (.int .u64 ad') ∧ w'.cell? ⟨g, off + 4, none⟩ = some (.int .u64 va') ∧ w'.cell? ⟨g, off + 5, none⟩ = some (.slice q' l' cp') ∧ w'.cell? ⟨g, off + 6, none⟩ = some (.int .i64 j0) ∧ w'.cell? ⟨g, off + 6 + 1, none⟩ = some (.int .i64 j1) ∧ w'.cell? ⟨g, off + 6 + 2, none⟩ = some (.int .i64 j2) ∧ w'.cell? ⟨g, off + 6 + 3, none⟩ = some (.int .u64 j3) ∧ w'.cell? ⟨g, off + 6 + 4, none⟩ = some (.int .u64 j4) ∧ w'.cell? ⟨g, off + 6 + 5, none⟩ = some (.slice jp jl jc))) (by kernel_rfl) (by (try dsimp only); exact ⟨n5, m0, m1, m2, d0, d1, d2, d3, d4, d5, f0, f1, f2, f3, f4, f5⟩) (fun hHeld => ?_)
      refine wpAnyH_take (i := 0) (oi := ⟨some 151, _, _, _, _, _⟩) (v := ?_) rfl (by kernel_rfl) (by kernel_rfl) (by kernel_rfl) (fun _ _ _ h => h) (Or.inl ⟨by rfl, ?_⟩) (by assumption) ?_
      rotate_left
      · (intro w hSw; (try dsimp only at hSw); go_simp; try with_reducible rfl)
      simp only [Act.put, List.setIfInBounds_toArray, List.set_cons_zero, List.set_cons_succ]
      refine wpAnyH_take (i := 1) (oi := ⟨some 152, _, _, _, _, _⟩) (v := ?_) rfl (by kernel_rfl) (by kernel_rfl) (by kernel_rfl) (fun _ _ _ h => h) (Or.inl ⟨by rfl, ?_⟩) (by assumption) ?_
      rotate_left
      · (intro w hSw; (try dsimp only at hSw); go_simp; try with_reducible rfl)
      simp only [Act.put, List.setIfInBounds_toArray, List.set_cons_zero, List.set_cons_succ]
      refine wpAnyH_take (i := 2) (oi := ⟨some 153, _, _, _, _, _⟩) (v := ?_) rfl (by kernel_rfl) (by kernel_rfl) (by kernel_rfl) (fun _ _ _ h => h) (Or.inl ⟨by rfl, ?_⟩) (by assumption) ?_
      rotate_left
      · (intro w hSw; (try dsimp only at hSw); go_simp; try with_reducible rfl)
      simp only [Act.put, List.setIfInBounds_toArray, List.set_cons_zero, List.set_cons_succ]
      refine wpAnyH_take (i := 3) (oi := ⟨some 154, _, _, _, _, _⟩) (v := ?_) rfl (by kernel_rfl) (by kernel_rfl) (by kernel_rfl) (fun _ _ _ h => h) (Or.inl ⟨by rfl, ?_⟩) (by assumption) ?_
      rotate_left
      · (intro w hSw; (try dsimp only at hSw); go_simp; try with_reducible rfl)
      simp only [Act.put, List.setIfInBounds_toArray, List.set_cons_zero, List.set_cons_succ]
      refine wpAnyH_take (i := 4) (oi := ⟨some 155, _, _, _, _, _⟩) (v := ?_) rfl (by kernel_rfl) (by kernel_rfl) (by kernel_rfl) (fun _ _ _ h => h) (Or.inl ⟨by rfl, ?_⟩) (by assumption) ?_
      rotate_left
      · (intro w hSw; (try dsimp only at hSw); go_simp; try with_reducible rfl)
      simp only [Act.put, List.setIfInBounds_toArray, List.set_cons_zero, List.set_cons_succ]
      refine wpAnyH_take (i := 5) (oi := ⟨some 156, _, _, _, _, _⟩) (v := ?_) rfl (by kernel_rfl) (by kernel_rfl) (by kernel_rfl) (fun _ _ _ h => h) (Or.inl ⟨by rfl, ?_⟩) (by assumption) ?_
      rotate_left
      · (intro w hSw; (try dsimp only at hSw); go_simp; try with_reducible rfl)
      simp only [Act.put, List.setIfInBounds_toArray, List.set_cons_zero, List.set_cons_succ]
      refine wpAnyH_take (i := 6) (oi := ⟨some 157, _, _, _, _, _⟩) (v := ?_) rfl (by kernel_rfl) (by kernel_rfl) (by kernel_rfl) (fun _ _ _ h => h) (Or.inl ⟨by rfl, ?_⟩) (by assumption) ?_
      rotate_left
      · (intro w hSw; (try dsimp only at hSw); go_simp; try with_reducible rfl)
      simp only [Act.put, List.setIfInBounds_toArray, List.set_cons_zero, List.set_cons_succ]
      refine wpAnyH_take (i := 7) (oi := ⟨some 158, _, _, _, _, _⟩) (v := ?_) rfl (by kernel_rfl) (by kernel_rfl) (by kernel_rfl) (fun _ _ _ h => h) (Or.inl ⟨by rfl, ?_⟩) (by assumption) ?_
      rotate_left
      · (intro w hSw; (try dsimp only at hSw); go_simp; try with_reducible rfl)
      simp only [Act.put, List.setIfInBounds_toArray, List.set_cons_zero, List.set_cons_succ]
      refine wpAnyH_ready (rs := [8]) (by kernel_rfl) (by simp) ?_
      refine AllReadyH.cons (o := ⟨some 159, _, _, _, _, _⟩) rfl (fun K hK => ?_) AllReadyH.nil
      go_simp
      go_at_call 20; refine (HC.out).mono ?_; rintro e w3 ⟨rfl, hb⟩; have HB3 := Lib.hid (below_trans HB.out.drew hb); have HT3 := Lib.hid (HT.out.drew.below hb); have HO3 := Lib.hid ((OutAt.drew HO2.out).below hb); have n5 := cell_below_drew n5 hb; have m0 := cell_below_drew m0 hb; have m1 := cell_below_drew m1 hb; have m2 := cell_below_drew m2 hb; have d0 := cell_below_drew d0 hb; have d1 := cell_below_drew d1 hb; have d2 := cell_below_drew d2 hb; have d3 := cell_below_drew d3 hb; have d4 := cell_below_drew d4 hb; have d5 := cell_below_drew d5 hb; have f0 := cell_below_drew f0 hb; have f1 := cell_below_drew f1 hb; have f2 := cell_below_drew f2 hb; have f3 := cell_below_drew f3 hb; have f4 := cell_below_drew f4 hb; have f5 := cell_below_drew f5 hb; clear hb
      refine hK.out _ _ (by (try dsimp only); exact ⟨n5, m0, m1, m2, d0, d1, d2, d3, d4, d5, f0, f1, f2, f3, f4, f5⟩) ?_
      clear hK K hHeld
      intro hHeld
      try simp only [Act.put, List.setIfInBounds_toArray, List.set_cons_zero, List.set_cons_succ]
      refine wpAnyH_take (i := 9) (oi := ⟨some 160, _, _, _, _, _⟩) (v := ?_) rfl (by kernel_rfl) (by kernel_rfl) (by kernel_rfl) (fun _ _ _ h => h) (Or.inl ⟨by rfl, ?_⟩) (by assumption) ?_
      rotate_left
      · (intro w hSw; (try dsimp only at hSw); go_simp; try with_reducible rfl)
      simp only [Act.put, List.setIfInBounds_toArray, List.set_cons_zero, List.set_cons_succ]
      refine wpAnyH_take (i := 10) (oi := ⟨some 161, _, _, _, _, _⟩) (v := ?_) rfl (by kernel_rfl) (by kernel_rfl) (by kernel_rfl) (fun _ _ _ h => h) (Or.inl ⟨by rfl, ?_⟩) (by assumption) ?_
      rotate_left
      · (intro w hSw; (try dsimp only at hSw); go_simp; try with_reducible rfl)
      simp only [Act.put, List.setIfInBounds_toArray, List.set_cons_zero, List.set_cons_succ]
      refine wpAnyH_take (i := 11) (oi := ⟨some 162, _, _, _, _, _⟩) (v := ?_) rfl (by kernel_rfl) (by kernel_rfl) (by kernel_rfl) (fun _ _ _ h => h) (Or.inl ⟨by rfl, ?_⟩) (by assumption) ?_
      rotate_left
      · (intro w hSw; (try dsimp only at hSw); go_simp; try with_reducible rfl)
      simp only [Act.put, List.setIfInBounds_toArray, List.set_cons_zero, List.set_cons_succ]
      refine wpAnyH_take (i := 12) (oi := ⟨some 163, _, _, _, _, _⟩) (v := ?_) rfl (by kernel_rfl) (by kernel_rfl) (by kernel_rfl) (fun _ _ _ h => h) (Or.inl ⟨by rfl, ?_⟩) (by assumption) ?_
      rotate_left
      · (intro w hSw; (try dsimp only at hSw); go_simp; try with_reducible rfl)
      simp only [Act.put, List.setIfInBounds_toArray, List.set_cons_zero, List.set_cons_succ]
      refine wpAnyH_take (i := 13) (oi := ⟨some 164, _, _, _, _, _⟩) (v := ?_) rfl (by kernel_rfl) (by kernel_rfl) (by kernel_rfl) (fun _ _ _ h => h) (Or.inl ⟨by rfl, ?_⟩) (by assumption) ?_
      rotate_left
      · (intro w hSw; (try dsimp only at hSw); go_simp; try with_reducible rfl)
      simp only [Act.put, List.setIfInBounds_toArray, List.set_cons_zero, List.set_cons_succ]
      refine wpAnyH_take (i := 14) (oi := ⟨some 165, _, _, _, _, _⟩) (v := ?_) rfl (by kernel_rfl) (by kernel_rfl) (by kernel_rfl) (fun _ _ _ h => h) (Or.inl ⟨by rfl, ?_⟩) (by assumption) ?_
      rotate_left
      · (intro w hSw; (try dsimp only at hSw); go_simp; try with_reducible rfl)
      simp only [Act.put, List.setIfInBounds_toArray, List.set_cons_zero, List.set_cons_succ]
      refine wpAnyH_ready (rs := [15]) (by kernel_rfl) (by simp) ?_
      refine AllReadyH.cons (o := ⟨some 166, _, _, _, _, _⟩) rfl (fun K hK => ?_) AllReadyH.nil
      go_simp
      go_at_call 20; refine (HD.out _ _ _ _ HT3.out HO3.out).mono ?_; rintro e w4 ⟨rfl, hb⟩; have HB4 := Lib.hid (below_trans HB3.out hb); have n5 := cell_below n5 hb; have m0 := cell_below m0 hb; have m1 := cell_below m1 hb; have m2 := cell_below m2 hb; have d0 := cell_below d0 hb; have d1 := cell_below d1 hb; have d2 := cell_below d2 hb; have d3 := cell_below d3 hb; have d4 := cell_below d4 hb; have d5 := cell_below d5 hb; have f0 := cell_below f0 hb; have f1 := cell_below f1 hb; have f2 := cell_below f2 hb; have f3 := cell_below f3 hb; have f4 := cell_below f4 hb; have f5 := cell_below f5 hb; clear hb
      refine hK.out _ _ (by (try dsimp only); exact ⟨n5, m0, m1, m2, d0, d1, d2, d3, d4, d5, f0, f1, f2, f3, f4, f5⟩) ?_
      clear hK K hHeld
      intro hHeld
      try simp only [Act.put, List.setIfInBounds_toArray, List.set_cons_zero, List.set_cons_succ]
      refine wpAnyH_take (i := 16) (oi := ⟨some 167, _, _, _, _, _⟩) (v := ?_) rfl (by kernel_rfl) (by kernel_rfl) (by kernel_rfl) (fun _ _ _ h => h) (Or.inl ⟨by rfl, ?_⟩) (by assumption) ?_
      rotate_left
      · (intro w hSw; (try dsimp only at hSw); go_simp; try with_reducible rfl)
      simp only [Act.put, List.setIfInBounds_toArray, List.set_cons_zero, List.set_cons_succ]
      refine wpAnyH_take (i := 17) (oi := ⟨some 168, _, _, _, _, _⟩) (v := ?_) rfl (by kernel_rfl) (by kernel_rfl) (by kernel_rfl) (fun _ _ _ h => h) (Or.inl ⟨by rfl, ?_⟩) (by assumption) ?_
      rotate_left
      · (intro w hSw; (try dsimp only at hSw); go_simp; try with_reducible rfl)
      simp only [Act.put, List.setIfInBounds_toArray, List.set_cons_zero, List.set_cons_succ]
      refine wpAnyH_take (i := 18) (oi := ⟨some 4, _, _, _, _, _⟩) (v := ?_) rfl (by kernel_rfl) (by kernel_rfl) (by kernel_rfl) (fun _ _ _ h => h) (Or.inl ⟨by rfl, ?_⟩) (by assumption) ?_
      rotate_left
      · (intro w hSw; (try dsimp only at hSw); go_simp; try with_reducible rfl)
      simp only [Act.put, List.setIfInBounds_toArray, List.set_cons_zero, List.set_cons_succ]
      refine wpAnyH_done (by kernel_rfl) ?_ _
      go_wp2_with fail
      go_ret
      exact ⟨by rw [HV2.out]; cases Y <;> rfl, HB4.out⟩
    · skip
      go_enter Try.func20, Try.ntmps20
      go_wp2_with fail
      refine wp_region_held_drew (S := (fun w' => w'.cell? ⟨w.heap.size, 5, none⟩ = some (.slice (some ⟨g, off, none⟩) 2 cap) ∧ w'.cell? ⟨w.heap.size + 1, 0, none⟩ = some (.slice p1 N1 c1) ∧ w'.cell? ⟨w.heap.size + 1, 1, none⟩ = some (.slice p2 N2 c2) ∧ w'.cell? ⟨w.heap.size + 1, 2, none⟩ = some (.slice p3 N3 c3) ∧ w'.cell? ⟨g, off, none⟩ = some (.int .i64 k') ∧ w'.cell? ⟨g, off + 1, none⟩ = some (.int .i64 co') ∧ w'.cell? ⟨g, off + 2, none⟩ = some (.int .i64 rg') ∧ w'.cell? ⟨g, off + 3, none⟩ = some (.int .u64 ad') ∧ w'.cell? ⟨g, off + 4, none⟩ = some (.int .u64 va') ∧ w'.cell? ⟨g, off + 5, none⟩ = some (.slice q' l' cp') ∧ w'.cell? ⟨g, off + 6, none⟩ = some (.int .i64 j0) ∧ w'.cell? ⟨g, off + 6 + 1, none⟩ = some (.int .i64 j1) ∧ w'.cell? ⟨g, off + 6 + 2, none⟩ = some (.int .i64 j2) ∧ w'.cell? ⟨g, off + 6 + 3, none⟩ = some (.int .u64 j3) ∧ w'.cell? ⟨g, off + 6 + 4, none⟩ = some (.int .u64 j4) ∧ w'.cell? ⟨g, off + 6 + 5, none⟩ = some (.slice jp jl jc))) (by kernel_rfl) (by (try dsimp only); exact ⟨n5, m0, m1, m2, d0, d1, d2, d3, d4, d5, f0, f1, f2, f3, f4, f5⟩) (fun hHeld => ?_)
      refine wpAnyH_take (i := 0) (oi := ⟨some 151, _, _, _, _, _⟩) (v := ?_) rfl (by kernel_rfl) (by kernel_rfl) (by kernel_rfl) (fun _ _ _ h => h) (Or.inl ⟨by rfl, ?_⟩) (by assumption) ?_
      rotate_left
      · (intro w hSw; (try dsimp only at hSw); go_simp; try with_reducible rfl)
      simp only [Act.put, List.setIfInBounds_toArray, List.set_cons_zero, List.set_cons_succ]
      refine wpAnyH_take (i := 1) (oi := ⟨some 152, _, _, _, _, _⟩) (v := ?_) rfl (by kernel_rfl) (by kernel_rfl) (by kernel_rfl) (fun _ _ _ h => h) (Or.inl ⟨by rfl, ?_⟩) (by assumption) ?_
      rotate_left
      · (intro w hSw; (try dsimp only at hSw); go_simp; try with_reducible rfl)
      simp only [Act.put, List.setIfInBounds_toArray, List.set_cons_zero, List.set_cons_succ]
      refine wpAnyH_take (i := 2) (oi := ⟨some 153, _, _, _, _, _⟩) (v := ?_) rfl (by kernel_rfl) (by kernel_rfl) (by kernel_rfl) (fun _ _ _ h => h) (Or.inl ⟨by rfl, ?_⟩) (by assumption) ?_
      rotate_left
      · (intro w hSw; (try dsimp only at hSw); go_simp; try with_reducible rfl)
      simp only [Act.put, List.setIfInBounds_toArray, List.set_cons_zero, List.set_cons_succ]
      refine wpAnyH_take (i := 3) (oi := ⟨some 154, _, _, _, _, _⟩) (v := ?_) rfl (by kernel_rfl) (by kernel_rfl) (by kernel_rfl) (fun _ _ _ h => h) (Or.inl ⟨by rfl, ?_⟩) (by assumption) ?_
      rotate_left
      · (intro w hSw; (try dsimp only at hSw); go_simp; try with_reducible rfl)
      simp only [Act.put, List.setIfInBounds_toArray, List.set_cons_zero, List.set_cons_succ]
      refine wpAnyH_take (i := 4) (oi := ⟨some 155, _, _, _, _, _⟩) (v := ?_) rfl (by kernel_rfl) (by kernel_rfl) (by kernel_rfl) (fun _ _ _ h => h) (Or.inl ⟨by rfl, ?_⟩) (by assumption) ?_
      rotate_left
      · (intro w hSw; (try dsimp only at hSw); go_simp; try with_reducible rfl)
      simp only [Act.put, List.setIfInBounds_toArray, List.set_cons_zero, List.set_cons_succ]
      refine wpAnyH_take (i := 5) (oi := ⟨some 156, _, _, _, _, _⟩) (v := ?_) rfl (by kernel_rfl) (by kernel_rfl) (by kernel_rfl) (fun _ _ _ h => h) (Or.inl ⟨by rfl, ?_⟩) (by assumption) ?_
      rotate_left
      · (intro w hSw; (try dsimp only at hSw); go_simp; try with_reducible rfl)
      simp only [Act.put, List.setIfInBounds_toArray, List.set_cons_zero, List.set_cons_succ]
      refine wpAnyH_take (i := 6) (oi := ⟨some 157, _, _, _, _, _⟩) (v := ?_) rfl (by kernel_rfl) (by kernel_rfl) (by kernel_rfl) (fun _ _ _ h => h) (Or.inl ⟨by rfl, ?_⟩) (by assumption) ?_
      rotate_left
      · (intro w hSw; (try dsimp only at hSw); go_simp; try with_reducible rfl)
      simp only [Act.put, List.setIfInBounds_toArray, List.set_cons_zero, List.set_cons_succ]
      refine wpAnyH_take (i := 7) (oi := ⟨some 158, _, _, _, _, _⟩) (v := ?_) rfl (by kernel_rfl) (by kernel_rfl) (by kernel_rfl) (fun _ _ _ h => h) (Or.inl ⟨by rfl, ?_⟩) (by assumption) ?_
      rotate_left
      · (intro w hSw; (try dsimp only at hSw); go_simp; try with_reducible rfl)
      simp only [Act.put, List.setIfInBounds_toArray, List.set_cons_zero, List.set_cons_succ]
      refine wpAnyH_ready (rs := [8]) (by kernel_rfl) (by simp) ?_
      refine AllReadyH.cons (o := ⟨some 159, _, _, _, _, _⟩) rfl (fun K hK => ?_) AllReadyH.nil
      go_simp
      go_at_call 20; refine (HC.out).mono ?_; rintro e w3 ⟨rfl, hb⟩; have HB3 := Lib.hid (below_trans HB.out.drew hb); have n5 := cell_below_drew n5 hb; have m0 := cell_below_drew m0 hb; have m1 := cell_below_drew m1 hb; have m2 := cell_below_drew m2 hb; have d0 := cell_below_drew d0 hb; have d1 := cell_below_drew d1 hb; have d2 := cell_below_drew d2 hb; have d3 := cell_below_drew d3 hb; have d4 := cell_below_drew d4 hb; have d5 := cell_below_drew d5 hb; have f0 := cell_below_drew f0 hb; have f1 := cell_below_drew f1 hb; have f2 := cell_below_drew f2 hb; have f3 := cell_below_drew f3 hb; have f4 := cell_below_drew f4 hb; have f5 := cell_below_drew f5 hb; clear hb
      refine hK.out _ _ (by (try dsimp only); exact ⟨n5, m0, m1, m2, d0, d1, d2, d3, d4, d5, f0, f1, f2, f3, f4, f5⟩) ?_
      clear hK K hHeld
      intro hHeld
      try simp only [Act.put, List.setIfInBounds_toArray, List.set_cons_zero, List.set_cons_succ]
      refine wpAnyH_take (i := 9) (oi := ⟨some 160, _, _, _, _, _⟩) (v := ?_) rfl (by kernel_rfl) (by kernel_rfl) (by kernel_rfl) (fun _ _ _ h => h) (Or.inl ⟨by rfl, ?_⟩) (by assumption) ?_
      rotate_left
      · (intro w hSw; (try dsimp only at hSw); go_simp; try with_reducible rfl)
      simp only [Act.put, List.setIfInBounds_toArray, List.set_cons_zero, List.set_cons_succ]
      refine wpAnyH_take (i := 10) (oi := ⟨some 161, _, _, _, _, _⟩) (v := undef) rfl (by kernel_rfl) (by kernel_rfl) (by kernel_rfl) (fun _ _ _ h => h) (Or.inr ⟨by rfl, rfl⟩) (by assumption) ?_
      simp only [Act.put, List.setIfInBounds_toArray, List.set_cons_zero, List.set_cons_succ]
      refine wpAnyH_take (i := 11) (oi := ⟨some 162, _, _, _, _, _⟩) (v := undef) rfl (by kernel_rfl) (by kernel_rfl) (by kernel_rfl) (fun _ _ _ h => h) (Or.inr ⟨by rfl, rfl⟩) (by assumption) ?_
      simp only [Act.put, List.setIfInBounds_toArray, List.set_cons_zero, List.set_cons_succ]
      refine wpAnyH_take (i := 12) (oi := ⟨some 163, _, _, _, _, _⟩) (v := undef) rfl (by kernel_rfl) (by kernel_rfl) (by kernel_rfl) (fun _ _ _ h => h) (Or.inr ⟨by rfl, rfl⟩) (by assumption) ?_
      simp only [Act.put, List.setIfInBounds_toArray, List.set_cons_zero, List.set_cons_succ]
      refine wpAnyH_take (i := 13) (oi := ⟨some 164, _, _, _, _, _⟩) (v := undef) rfl (by kernel_rfl) (by kernel_rfl) (by kernel_rfl) (fun _ _ _ h => h) (Or.inr ⟨by rfl, rfl⟩) (by assumption) ?_
      simp only [Act.put, List.setIfInBounds_toArray, List.set_cons_zero, List.set_cons_succ]
      refine wpAnyH_take (i := 14) (oi := ⟨some 165, _, _, _, _, _⟩) (v := undef) rfl (by kernel_rfl) (by kernel_rfl) (by kernel_rfl) (fun _ _ _ h => h) (Or.inr ⟨by rfl, rfl⟩) (by assumption) ?_
      simp only [Act.put, List.setIfInBounds_toArray, List.set_cons_zero, List.set_cons_succ]
      refine wpAnyH_take (i := 15) (oi := ⟨some 166, _, _, _, _, _⟩) (v := undef) rfl (by kernel_rfl) (by kernel_rfl) (by kernel_rfl) (fun _ _ _ h => h) (Or.inr ⟨by rfl, rfl⟩) (by assumption) ?_
      simp only [Act.put, List.setIfInBounds_toArray, List.set_cons_zero, List.set_cons_succ]
      refine wpAnyH_take (i := 16) (oi := ⟨some 167, _, _, _, _, _⟩) (v := ?_) rfl (by kernel_rfl) (by kernel_rfl) (by kernel_rfl) (fun _ _ _ h => h) (Or.inl ⟨by rfl, ?_⟩) (by assumption) ?_
      rotate_left
      · (intro w hSw; (try dsimp only at hSw); go_simp; try with_reducible rfl)
      simp only [Act.put, List.setIfInBounds_toArray, List.set_cons_zero, List.set_cons_succ]
      refine wpAnyH_take (i := 17) (oi := ⟨some 168, _, _, _, _, _⟩) (v := ?_) rfl (by kernel_rfl) (by kernel_rfl) (by kernel_rfl) (fun _ _ _ h => h) (Or.inl ⟨by rfl, ?_⟩) (by assumption) ?_
      rotate_left
      · (intro w hSw; (try dsimp only at hSw); go_simp; try with_reducible rfl)
      simp only [Act.put, List.setIfInBounds_toArray, List.set_cons_zero, List.set_cons_succ]
      refine wpAnyH_take (i := 18) (oi := ⟨some 4, _, _, _, _, _⟩) (v := ?_) rfl (by kernel_rfl) (by kernel_rfl) (by kernel_rfl) (fun _ _ _ h => h) (Or.inl ⟨by rfl, ?_⟩) (by assumption) ?_
      rotate_left
      · (intro w hSw; (try dsimp only at hSw); go_simp; try with_reducible rfl)
      simp only [Act.put, List.setIfInBounds_toArray, List.set_cons_zero, List.set_cons_succ]
      refine wpAnyH_done (by kernel_rfl) ?_ _
      go_wp2_with fail
      go_ret
      exact ⟨by rw [HV2.out]; cases Y <;> rfl, HB3.out⟩
  have HV2 := Lib.hid (show R = false from by
    rw [HV.out]
    have hlen := HLEN.out
    clear HLEN HN HB HM HR HO2 lens n0 n1 n2 n3 n4 n5 m0 m1 m2
    subst hlen
    match args, h6, h4, h5 with
    | [], _, _, _ => simp [holdsL, argsB]
    | [x], h6, _, _ => have : ¬ k = 6 := fun e => h6 ⟨e, rfl⟩; simp [holdsL, argsB, this]
    | [x, y], _, h4, h5 => have a1 : ¬ k = 4 := fun e => h4 ⟨e, rfl⟩; have a2 : ¬ k = 5 := fun e => h5 ⟨e, rfl⟩; simp [holdsL, argsB, a1, a2]
    | x :: y :: z :: l, _, _, _ => simp [holdsL, argsB])
  clear HI HR HV HLEN HO2
  by_cases q6 : k = 6
  · have l1 : ¬ ln = 1 := fun e => h6 ⟨q6, e⟩
    have l2 : ¬ (ln : Int) = 1 := by omega
    have l3 : ((ln : Int) == 1) = false := by rw [beq_eq_false_iff_ne]; exact l2
    have ld : decide ((ln : Int) = 1) = false := decide_eq_false l2
    clear h6 h4 h5 lens
    subst q6
    go_enter Try.func20, Try.ntmps20
    go_wp2_with fail
    go_quiet (fail)
    go_wp2_with fail
    go_ret
    exact ⟨by rw [HV2.out]; rfl, below_drewN HB.out _⟩
  have e6 : (k == 6) = false := by rw [beq_eq_false_iff_ne]; exact q6
  by_cases q4 : k = 4
  · have l1 : ¬ ln = 2 := fun e => h4 ⟨q4, e⟩
    have l2 : ¬ (ln : Int) = 2 := by omega
    have l3 : ((ln : Int) == 2) = false := by rw [beq_eq_false_iff_ne]; exact l2
    have ld : decide ((ln : Int) = 2) = false := decide_eq_false l2
    clear h6 h4 h5 lens
    subst q4
    go_enter Try.func20, Try.ntmps20
    go_wp2_with fail
    go_quiet (fail)
    go_wp2_with fail
    go_ret
    exact ⟨by rw [HV2.out]; rfl, below_drewN HB.out _⟩
  have e4 : (k == 4) = false := by rw [beq_eq_false_iff_ne]; exact q4
  by_cases q5 : k = 5
  · have l1 : ¬ ln = 2 := fun e => h5 ⟨q5, e⟩
    have l2 : ¬ (ln : Int) = 2 := by omega
    have l3 : ((ln : Int) == 2) = false := by rw [beq_eq_false_iff_ne]; exact l2
    have ld : decide ((ln : Int) = 2) = false := decide_eq_false l2
    clear h6 h4 h5 lens
    subst q5
    go_enter Try.func20, Try.ntmps20
    go_wp2_with fail
    go_quiet (fail)
    go_wp2_with fail
    go_ret
    exact ⟨by rw [HV2.out]; rfl, below_drewN HB.out _⟩
  have e5 : (k == 5) = false := by rw [beq_eq_false_iff_ne]; exact q5
  clear lens
  go_enter Try.func20, Try.ntmps20
  go_wp2_with fail
  go_ret
  exact ⟨by rw [HV2.out]; rfl, HB.out⟩
end Go.Proofs.Yteepoohcdmjmhaa
