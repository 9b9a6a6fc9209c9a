/- The text of a condition. -/
import Derived.Test.YteepoohcdmjmhaaCondCount
import Derived.Test.YteepoohcdmjmhaaCondName
import Derived.Test.YteepoohcdmjmhaaHexWalk
import Derived.Deep.RegionHeld
namespace Go.Proofs.Yteepoohcdmjmhaa
open Go.RowKit
set_option linter.unusedVariables false
set_option linter.unusedSimpArgs false

def hexL (v : Nat) : List UInt8 := [48, 120] ++ txt 16 v
def levelT : CT → Nat
  | .mk k _ _ _ _ _ => if k = 5 then 1 else if k = 4 then 2 else 3
def innerL (least : Nat) (x : Nat × List UInt8) : List UInt8 := if x.1 < least then [40] ++ x.2 ++ [41] else x.2
def argsX (k : Int) : List (Nat × List UInt8) → List UInt8
  | [x] => if k = 6 then [126] ++ innerL 3 x else []
  | [x, y] => if k = 4 then innerL 2 x ++ [32, 47, 92, 32] ++ innerL 3 y else if k = 5 then innerL 1 x ++ [32, 92, 47, 32] ++ innerL 2 y else []
  | _ => []
def nodeX (k : Int) (x1 x2 x3 x4 : List UInt8) (ps : List (Nat × List UInt8)) : List UInt8 :=
  if k = 1 then x1 ++ [58] ++ x2 ++ [61] ++ x4
  else if k = 2 then [91] ++ x3 ++ [93, 61] ++ x4
  else if k = 3 then [102, 97, 117, 108, 116, 115, 32] ++ x1 ++ [61] ++ x4
  else if k = 7 then [116, 114, 117, 101]
  else argsX k ps
def nodeL (k c r : Int) (a v : Nat) (ps : List (Nat × List UInt8)) : List UInt8 := nodeX k (intL c) (regL r) (hexL a) (hexL v) ps
mutual
def printT : CT → List UInt8
  | .mk k c r a v args => nodeL k c r a v (printL args)
def printL : List CT → List (Nat × List UInt8)
  | [] => []
  | t :: ts => (levelT t, printT t) :: printL ts
end
theorem printL_len : ∀ l : List CT, (printL l).length = l.length
  | [] => rfl
  | t :: ts => by simp [printL, printL_len ts]
theorem hexL_len (v : Nat) (hv : v < 18446744073709551616) : (hexL v).length ≤ 66 := by
  have := txt_len64 16 v (by decide) hv
  unfold hexL
  simp; omega
theorem regL_len (n : Int) (h : I64 n) : (regL n).length ≤ 66 := by
  have := intL_len n h
  unfold regL
  split
  · decide
  · split
    · simp; omega
    · simp
theorem innerL_len (n : Nat) (x : Nat × List UInt8) : (innerL n x).length ≤ x.2.length + 2 := by
  unfold innerL
  split
  · simp
  · omega
/-- The numbers of a condition fit. -/
inductive CT.Fits : CT → Prop
  | mk {k c r : Int} {a v : Nat} {args : List CT} (h : a < 18446744073709551616 ∧ v < 18446744073709551616 ∧ I64 k ∧ I64 c ∧ I64 r) (ha : ∀ u ∈ args, CT.Fits u) : CT.Fits (.mk k c r a v args)
theorem CT.At.fits {w : World} {S : Nat → Prop} : ∀ (t : CT) (cs : List Value), CT.At w S t cs → t.Fits := by
  intro t
  refine CT.ind (P := fun t => ∀ cs : List Value, CT.At w S t cs → t.Fits) ?_ t
  intro k c r a v args IH cs h
  obtain ⟨p, cap, rfl, h1, h2, h3, h4, h5⟩ := h.own
  refine .mk ⟨h3, h4⟩ (fun u hu => ?_)
  obtain ⟨j, hj, rfl⟩ := List.getElem_of_mem hu
  obtain ⟨g, off, es, _, _, _, _, h6⟩ := h5.at_ hj
  exact IH _ hu _ h6
theorem print_len : ∀ (t : CT), t.Fits → (printT t).length ≤ 300 * countT t := by
  intro t
  refine CT.ind (P := fun t => t.Fits → (printT t).length ≤ 300 * countT t) ?_ t
  intro k c r a v args IH h
  cases h with
  | mk h ha =>
    obtain ⟨h1, h2, h3, h4, h5⟩ := h
    have b1 := intL_len c h4
    have b2 := regL_len r h5
    have b3 := hexL_len a h1
    have b4 := hexL_len v h2
    rw [printT, countT]
    unfold nodeL nodeX
    split
    · simp; omega
    · split
      · simp; omega
      · split
        · simp; omega
        · split
          · simp; omega
          · match args, IH, ha with
            | [], _, _ => simp [printL, argsX]
            | [x], IH, ha =>
              have hx := IH x (by simp) (ha x (by simp))
              have hi := innerL_len 3 (levelT x, printT x)
              simp only [printL, countL, argsX]
              split
              · simp at hi ⊢; omega
              · simp
            | [x, y], IH, ha =>
              have hx := IH x (by simp) (ha x (by simp))
              have hy := IH y (by simp) (ha y (by simp))
              have hi := innerL_len 2 (levelT x, printT x)
              have hi1 := innerL_len 1 (levelT x, printT x)
              have hj := innerL_len 3 (levelT y, printT y)
              have hj2 := innerL_len 2 (levelT y, printT y)
              simp only [printL, countL, argsX]
              split
              · simp at hi hj ⊢; omega
              · split
                · simp at hi1 hj2 ⊢; omega
                · simp
            | x :: y :: z :: l, _, _ => simp [printL, argsX]
theorem CT.At.drew {w : World} {S : Nat → Prop} {t : CT} {cs : List Value} (h : CT.At w S t cs) : CT.At w.drew S t cs := h.below (Below.refl _ _).drew
theorem cell_below_drew {w w' : World} {p : Addr} {u : Value} (h : w.cell? p = some u) (hb : Below w.drew.heap.size w.drew w') : w'.cell? p = some u := cell_below (show w.drew.cell? p = some u from h) hb
theorem blk_drew {w : World} {T : TypeId} {g : Nat} {cs : List Value} (h : Blk w T g cs) : Blk w.drew T g cs := h
theorem blk_cells6' {w : World} {g : Nat} {a b c d e f : Value} (h : Blk w 25 g [a, b, c, d, e, f]) :
    w.cell? ⟨g, 0, none⟩ = some a ∧ w.cell? ⟨g, 1, none⟩ = some b ∧ w.cell? ⟨g, 2, none⟩ = some c ∧ w.cell? ⟨g, 3, none⟩ = some d ∧ w.cell? ⟨g, 4, none⟩ = some e ∧ w.cell? ⟨g, 5, none⟩ = some f :=
  ⟨h.cell 0, h.cell 1, h.cell 2, h.cell 3, h.cell 4, h.cell 5⟩
theorem cat_bb {P : Program} (a b c : List UInt8) (h : c = a ++ b) (hl : a.length + b.length ≤ 1000000) (w : World) : (Op.stringOp .add (ba a) (ba b)).run P w = .ok (.string (ba c)) w := by
  rw [h]; exact cat_ba a b hl w
set_option maxRecDepth 100000 in
set_option maxHeartbeats 1600000 in
theorem level_any (w : World) (S : Nat → Prop) (t : CT) (cs : List Value) (h : CT.At w S t cs) :
    Calls Try.prog 43 #[.agg cs.toArray] w fun e w' => e = .returned (.int .i64 (levelT t : Nat)) ∧ Below w.heap.size w w' := by
  obtain ⟨k, c, r, a, v, args⟩ := t
  obtain ⟨p, cap, rfl, _⟩ := h.own
  have HB := Lib.hid (show Below w.heap.size w (w.alloc (.cells #[.int .i64 k, .int .i64 c, .int .i64 r, .int .u64 (a : Nat), .int .u64 (v : Nat), .slice p args.length cap] 25)) from below_alloc (Below.refl _ _) _)
  have HV := Lib.hid (show levelT (.mk k c r a v args) = if k = 5 then 1 else if k = 4 then 2 else 3 from rfl)
  clear h
  by_cases h5 : k = 5
  · subst h5
    go_enter Try.func43, Try.ntmps43
    go_wp2_with fail
    go_ret
    exact ⟨by rw [HV.out]; rfl, HB.out⟩
  · have hb5 : (k == 5) = false := by rw [beq_eq_false_iff_ne]; exact h5
    by_cases h4 : k = 4
    · subst h4
      go_enter Try.func43, Try.ntmps43
      go_wp2_with fail
      go_ret
      exact ⟨by rw [HV.out]; rfl, HB.out⟩
    · have hb4 : (k == 4) = false := by rw [beq_eq_false_iff_ne]; exact h4
      rw [if_neg h5, if_neg h4] at HV
      go_enter Try.func43, Try.ntmps43
      go_wp2_with fail
      go_ret
      exact ⟨by rw [HV.out]; rfl, HB.out⟩
theorem hex_at (v : Nat) (w : World) (hv : v < 18446744073709551616) : Calls Try.prog 28 #[.int .u64 (v : Nat)] w fun e w' => e = .returned (.string (ba (hexL v))) ∧ Below w.heap.size w w' := by
  have h := hex_any (v : Nat) w ⟨by omega, by omega⟩
  rw [Int.toNat_natCast] at h
  exact h
def PrintOK (t : CT) : Prop := ∀ (w : World) (S : Nat → Prop) (cs : List Value), countT t ≤ 1000 → CT.At w S t cs →
    Calls Try.prog 11 #[.agg cs.toArray] w fun e w' => e = .returned (.string (ba (printT t))) ∧ Below w.heap.size w w'
set_option maxRecDepth 100000 in
set_option maxHeartbeats 1600000 in
theorem inner_any (t : CT) (hp : PrintOK t) (least : Nat) (hl : least ≤ 3) (w : World) (S : Nat → Prop) (cs : List Value) (hc : countT t ≤ 1000) (h : CT.At w S t cs) :
    Calls Try.prog 29 #[.agg cs.toArray, .int .i64 (least : Nat)] w fun e w' => e = .returned (.string (ba (innerL least (levelT t, printT t)))) ∧ Below w.heap.size w w' := by
  have hln := print_len t (CT.At.fits t cs h)
  have HL := Lib.hid (fun w2 S2 (h2 : CT.At w2 S2 t cs) => level_any w2 S2 t cs h2)
  have HP := Lib.hid (fun w2 S2 (h2 : CT.At w2 S2 t cs) => hp w2 S2 cs hc h2)
  have H0 := Lib.hid h
  obtain ⟨q, q1, q2, q3, q4, q5⟩ := t
  obtain ⟨p, cap, rfl, _⟩ := h.own
  have HB := Lib.hid (show Below w.heap.size w (w.alloc (.cells #[.int .i64 q, .int .i64 q1, .int .i64 q2, .int .u64 (q3 : Nat), .int .u64 (q4 : Nat), .slice p q5.length cap] 25)) from below_alloc (Below.refl _ _) _)
  have HN := Lib.hid (own_box w #[.int .i64 q, .int .i64 q1, .int .i64 q2, .int .u64 (q3 : Nat), .int .u64 (q4 : Nat), .slice p q5.length cap])
  have HV := Lib.hid (show innerL least (levelT (.mk q q1 q2 q3 q4 q5), printT (.mk q q1 q2 q3 q4 q5)) = if levelT (.mk q q1 q2 q3 q4 q5) < least then [40] ++ printT (.mk q q1 q2 q3 q4 q5) ++ [41] else printT (.mk q q1 q2 q3 q4 q5) from rfl)
  have H1 := Lib.hid (H0.out.below HB.out)
  clear h H0
  generalize printT (.mk q q1 q2 q3 q4 q5) = T at *
  generalize levelT (.mk q q1 q2 q3 q4 q5) = V at *
  obtain ⟨A1, hA1⟩ : ∃ A : List UInt8, A = [40] ++ T := ⟨_, rfl⟩
  obtain ⟨A2, hA2⟩ : ∃ A : List UInt8, A = A1 ++ [41] := ⟨_, rfl⟩
  have hcat1 : ∀ wx : World, (Op.stringOp .add { data := #[40] } (ba T)).run Try.prog wx = .ok (.string (ba A1)) wx := cat_bb (P := Try.prog) [40] T A1 hA1 (by simp; omega)
  have hcat2 : ∀ wx : World, (Op.stringOp .add (ba A1) { data := #[41] }).run Try.prog wx = .ok (.string (ba A2)) wx := cat_bb (P := Try.prog) A1 [41] A2 hA2 (by rw [hA1]; simp; omega)
  have HA := Lib.hid (show A2 = [40] ++ T ++ [41] by rw [hA2, hA1])
  clear hA1 hA2
  have HC := Lib.hid (HL.out _ _ H1.out)
  go_enter Try.func29, Try.ntmps29
  go_wp2_with fail
  refine (HC.out).mono ?_
  rintro e w2 ⟨rfl, hb⟩
  have HB2 := Lib.hid (below_trans HB.out hb)
  have HC2 := Lib.hid (HP.out _ _ (H1.out.below hb))
  obtain ⟨n0, n1, n2, n3, n4, n5⟩ := blk_cells6' (HN.out.below hb)
  clear hb HC
  by_cases hlt : V < least
  · have hli : (V : Int) < least := by omega
    have HVV := Lib.hid (HV.out.trans (if_pos hlt))
    go_wp2_with fail
    refine (HC2.out).mono ?_
    rintro e w3 ⟨rfl, hb⟩
    have HB3 := Lib.hid (below_trans HB2.out hb)
    clear hb
    go_wp2_with fail
    go_ret
    exact ⟨by rw [HVV.out, ← HA.out]; rfl, HB3.out⟩
  · have hli : ¬ (V : Int) < least := by omega
    have HVV := Lib.hid (HV.out.trans (if_neg hlt))
    go_wp2_with fail
    refine (HC2.out).mono ?_
    rintro e w3 ⟨rfl, hb⟩
    have HB3 := Lib.hid (below_trans HB2.out hb)
    clear hb
    go_wp2_with fail
    go_ret
    exact ⟨by rw [HVV.out]; rfl, HB3.out⟩
set_option maxRecDepth 100000 in
set_option maxHeartbeats 3200000 in
theorem print_any : ∀ (t : CT), PrintOK t := by
  intro t
  refine CT.ind (P := PrintOK) ?_ t
  intro k c r a v args IH w S cs hc ht
  have hln := print_len _ (CT.At.fits _ _ ht)
  obtain ⟨p, cap, rfl, h1, h2, h3, h4, h5⟩ := ht.own
  obtain ⟨hv, hk, hcI, hrI⟩ := h4
  have HI := Lib.hid IH
  generalize hlen : args.length = ln at *
  have HN := Lib.hid (own_box w #[.int .i64 k, .int .i64 c, .int .i64 r, .int .u64 (a : Nat), .int .u64 (v : Nat), .slice p ln cap])
  have HB := Lib.hid (show Below w.heap.size w (w.alloc (.cells #[.int .i64 k, .int .i64 c, .int .i64 r, .int .u64 (a : Nat), .int .u64 (v : Nat), .slice p ln cap] 25)) from below_alloc (Below.refl _ _) _)
  have HR := Lib.hid (h5.below HB.out)
  have HV := Lib.hid (show printT (.mk k c r a v args) = nodeL k c r a v (printL args) from rfl)
  have hcap : cap ≤ 9223372036854775807 := by unfold maxLen at h2; omega
  have HLC := Lib.hid (show countT (.mk k c r a v args) = 1 + countL args from rfl)
  clear ht IH h5
  generalize printT (.mk k c r a v args) = R at *
  have b1 := intL_len c hcI
  have b2 := regL_len r hrI
  have b3 := hexL_len a h3
  have b4 := hexL_len v hv
  obtain ⟨n0, n1, n2, n3, n4, n5⟩ := blk_cells6' HN.out
  have HHex := Lib.hid (fun w1 => hex_at v w1 hv)
  have HHexA := Lib.hid (fun w1 => hex_at a w1 h3)
  have HInt := Lib.hid (fun w1 => int_any c w1 hcI)
  have HReg := Lib.hid (fun w1 => regasm_any r w1 hrI)
  have HV := Lib.hid (HV.out.trans (show _ = nodeX k (intL c) (regL r) (hexL a) (hexL v) (printL args) from rfl))
  generalize hexL v = X4 at *
  generalize hexL a = X3 at *
  generalize intL c = X1 at *
  generalize regL r = X2 at *
  by_cases k1 : k = 1
  · subst k1
    obtain ⟨A1, hA1⟩ : ∃ A : List UInt8, A = X1 ++ [58] := ⟨_, rfl⟩
    have hcat1 : ∀ wx : World, (Op.stringOp .add (ba X1) { data := #[58] }).run Try.prog wx = .ok (.string (ba A1)) wx := cat_bb (P := Try.prog) X1 [58] A1 hA1 (by simp; omega)
    obtain ⟨A2, hA2⟩ : ∃ A : List UInt8, A = A1 ++ X2 := ⟨_, rfl⟩
    have hcat2 : ∀ wx : World, (Op.stringOp .add (ba A1) (ba X2)).run Try.prog wx = .ok (.string (ba A2)) wx := cat_bb (P := Try.prog) A1 X2 A2 hA2 (by rw [hA1]; simp; omega)
    obtain ⟨A3, hA3⟩ : ∃ A : List UInt8, A = A2 ++ [61] := ⟨_, rfl⟩
    have hcat3 : ∀ wx : World, (Op.stringOp .add (ba A2) { data := #[61] }).run Try.prog wx = .ok (.string (ba A3)) wx := cat_bb (P := Try.prog) A2 [61] A3 hA3 (by rw [hA2, hA1]; simp; omega)
    obtain ⟨A4, hA4⟩ : ∃ A : List UInt8, A = A3 ++ X4 := ⟨_, rfl⟩
    have hcat4 : ∀ wx : World, (Op.stringOp .add (ba A3) (ba X4)).run Try.prog wx = .ok (.string (ba A4)) wx := cat_bb (P := Try.prog) A3 X4 A4 hA4 (by rw [hA3, hA2, hA1]; simp; omega)
    have HA := Lib.hid (show A4 = X1 ++ [58] ++ X2 ++ [61] ++ X4 by rw [hA4, hA3, hA2, hA1])
    clear hA1 hA2 hA3 hA4
    go_enter Try.func11, Try.ntmps11
    go_wp2_with fail
    refine wp_region_held_drew (S := (fun w' => w'.cell? ⟨w.heap.size, 1, none⟩ = some (.int .i64 c) ∧ w'.cell? ⟨w.heap.size, 2, none⟩ = some (.int .i64 r) ∧ w'.cell? ⟨w.heap.size, 3, none⟩ = some (.int .u64 (a : Nat)) ∧ w'.cell? ⟨w.heap.size, 4, none⟩ = some (.int .u64 (v : Nat)))) (by kernel_rfl) (by (try dsimp only); exact ⟨n1, n2, n3, n4⟩) (fun hHeld => ?_)
    refine wpAnyH_take (i := 0) (oi := ⟨some 7, _, _, _, _, _⟩) (v := ?_) rfl (by kernel_rfl) (by kernel_rfl) (by kernel_rfl) (fun _ _ _ h => h) (Or.inl ⟨by rfl, ?_⟩) (by assumption) ?_
    rotate_left
    · (intro w hSw; (try dsimp only at hSw); go_simp; try with_reducible rfl)
    simp only [Act.put, List.setIfInBounds_toArray, List.set_cons_zero, List.set_cons_succ]
    refine wpAnyH_take (i := 1) (oi := ⟨some 8, _, _, _, _, _⟩) (v := ?_) rfl (by kernel_rfl) (by kernel_rfl) (by kernel_rfl) (fun _ _ _ h => h) (Or.inl ⟨by rfl, ?_⟩) (by assumption) ?_
    rotate_left
    · (intro w hSw; (try dsimp only at hSw); go_simp; try with_reducible rfl)
    simp only [Act.put, List.setIfInBounds_toArray, List.set_cons_zero, List.set_cons_succ]
    refine wpAnyH_take (i := 4) (oi := ⟨some 11, _, _, _, _, _⟩) (v := ?_) rfl (by kernel_rfl) (by kernel_rfl) (by kernel_rfl) (fun _ _ _ h => h) (Or.inl ⟨by rfl, ?_⟩) (by assumption) ?_
    rotate_left
    · (intro w hSw; (try dsimp only at hSw); go_simp; try with_reducible rfl)
    simp only [Act.put, List.setIfInBounds_toArray, List.set_cons_zero, List.set_cons_succ]
    refine wpAnyH_take (i := 5) (oi := ⟨some 12, _, _, _, _, _⟩) (v := ?_) rfl (by kernel_rfl) (by kernel_rfl) (by kernel_rfl) (fun _ _ _ h => h) (Or.inl ⟨by rfl, ?_⟩) (by assumption) ?_
    rotate_left
    · (intro w hSw; (try dsimp only at hSw); go_simp; try with_reducible rfl)
    simp only [Act.put, List.setIfInBounds_toArray, List.set_cons_zero, List.set_cons_succ]
    refine wpAnyH_take (i := 9) (oi := ⟨some 16, _, _, _, _, _⟩) (v := ?_) rfl (by kernel_rfl) (by kernel_rfl) (by kernel_rfl) (fun _ _ _ h => h) (Or.inl ⟨by rfl, ?_⟩) (by assumption) ?_
    rotate_left
    · (intro w hSw; (try dsimp only at hSw); go_simp; try with_reducible rfl)
    simp only [Act.put, List.setIfInBounds_toArray, List.set_cons_zero, List.set_cons_succ]
    refine wpAnyH_take (i := 10) (oi := ⟨some 17, _, _, _, _, _⟩) (v := ?_) rfl (by kernel_rfl) (by kernel_rfl) (by kernel_rfl) (fun _ _ _ h => h) (Or.inl ⟨by rfl, ?_⟩) (by assumption) ?_
    rotate_left
    · (intro w hSw; (try dsimp only at hSw); go_simp; try with_reducible rfl)
    simp only [Act.put, List.setIfInBounds_toArray, List.set_cons_zero, List.set_cons_succ]
    refine wpAnyH_ready (rs := [2]) (by kernel_rfl) (by simp) ?_
    refine AllReadyH.cons (o := ⟨some 9, _, _, _, _, _⟩) rfl (fun K hK => ?_) AllReadyH.nil
    go_simp
    go_at_call 26; refine (HInt.out _).mono ?_; rintro e w3 ⟨rfl, m3, hw3⟩; have HN3 := Lib.hid (show Blk w3 25 w.heap.size _ from by rw [hw3]; exact Blk.dn (blk_drew HN.out) m3); have HB3 := Lib.hid (show Below w.heap.size w w3 from by rw [hw3]; exact below_drewN (HB.out.drew) m3); clear hw3; obtain ⟨n0, n1, n2, n3, n4, n5⟩ := blk_cells6' HN3.out
    refine hK.out _ _ (by (try dsimp only); exact ⟨n1, n2, n3, n4⟩) ?_
    clear hK K hHeld
    intro hHeld
    try simp only [Act.put, List.setIfInBounds_toArray, List.set_cons_zero, List.set_cons_succ]
    refine wpAnyH_take (i := 3) (oi := ⟨some 10, _, _, _, _, _⟩) (v := ?_) rfl (by kernel_rfl) (by kernel_rfl) (by kernel_rfl) (fun _ _ _ h => h) (Or.inl ⟨by rfl, ?_⟩) (by assumption) ?_
    rotate_left
    · (intro w hSw; (try dsimp only at hSw); go_simp; try with_reducible rfl)
    simp only [Act.put, List.setIfInBounds_toArray, List.set_cons_zero, List.set_cons_succ]
    refine wpAnyH_ready (rs := [6]) (by kernel_rfl) (by simp) ?_
    refine AllReadyH.cons (o := ⟨some 13, _, _, _, _, _⟩) rfl (fun K hK => ?_) AllReadyH.nil
    go_simp
    go_at_call 27; refine (HReg.out _).mono ?_; rintro e w4 ⟨rfl, m4, hw4⟩; have HN4 := Lib.hid (show Blk w4 25 w.heap.size _ from by rw [hw4]; exact Blk.dn HN3.out m4); have HB4 := Lib.hid (show Below w.heap.size w w4 from by rw [hw4]; exact below_drewN HB3.out m4); clear hw4; obtain ⟨n0, n1, n2, n3, n4, n5⟩ := blk_cells6' HN4.out
    refine hK.out _ _ (by (try dsimp only); exact ⟨n1, n2, n3, n4⟩) ?_
    clear hK K hHeld
    intro hHeld
    try simp only [Act.put, List.setIfInBounds_toArray, List.set_cons_zero, List.set_cons_succ]
    refine wpAnyH_take (i := 7) (oi := ⟨some 14, _, _, _, _, _⟩) (v := ?_) rfl (by kernel_rfl) (by kernel_rfl) (by kernel_rfl) (fun _ _ _ h => h) (Or.inl ⟨by rfl, ?_⟩) (by assumption) ?_
    rotate_left
    · (intro w hSw; (try dsimp only at hSw); go_simp; try with_reducible rfl)
    simp only [Act.put, List.setIfInBounds_toArray, List.set_cons_zero, List.set_cons_succ]
    refine wpAnyH_take (i := 8) (oi := ⟨some 15, _, _, _, _, _⟩) (v := ?_) rfl (by kernel_rfl) (by kernel_rfl) (by kernel_rfl) (fun _ _ _ h => h) (Or.inl ⟨by rfl, ?_⟩) (by assumption) ?_
    rotate_left
    · (intro w hSw; (try dsimp only at hSw); go_simp; try with_reducible rfl)
    simp only [Act.put, List.setIfInBounds_toArray, List.set_cons_zero, List.set_cons_succ]
    refine wpAnyH_ready (rs := [11]) (by kernel_rfl) (by simp) ?_
    refine AllReadyH.cons (o := ⟨some 18, _, _, _, _, _⟩) rfl (fun K hK => ?_) AllReadyH.nil
    go_simp
    go_at_call 28; refine (HHex.out _).mono ?_; rintro e w5 ⟨rfl, hb⟩; have HN5 := Lib.hid (show Blk w5 25 w.heap.size _ from Blk.below HN4.out hb); have HB5 := Lib.hid (below_trans HB4.out hb); clear hb; obtain ⟨n0, n1, n2, n3, n4, n5⟩ := blk_cells6' HN5.out
    refine hK.out _ _ (by (try dsimp only); exact ⟨n1, n2, n3, n4⟩) ?_
    clear hK K hHeld
    intro hHeld
    try simp only [Act.put, List.setIfInBounds_toArray, List.set_cons_zero, List.set_cons_succ]
    refine wpAnyH_take (i := 12) (oi := ⟨some 19, _, _, _, _, _⟩) (v := ?_) rfl (by kernel_rfl) (by kernel_rfl) (by kernel_rfl) (fun _ _ _ h => h) (Or.inl ⟨by rfl, ?_⟩) (by assumption) ?_
    rotate_left
    · (intro w hSw; (try dsimp only at hSw); go_simp; try with_reducible rfl)
    simp only [Act.put, List.setIfInBounds_toArray, List.set_cons_zero, List.set_cons_succ]
    refine wpAnyH_take (i := 13) (oi := ⟨some 2, _, _, _, _, _⟩) (v := ?_) rfl (by kernel_rfl) (by kernel_rfl) (by kernel_rfl) (fun _ _ _ h => h) (Or.inl ⟨by rfl, ?_⟩) (by assumption) ?_
    rotate_left
    · (intro w hSw; (try dsimp only at hSw); go_simp; try with_reducible rfl)
    simp only [Act.put, List.setIfInBounds_toArray, List.set_cons_zero, List.set_cons_succ]
    refine wpAnyH_done (by kernel_rfl) ?_ _
    go_wp2_with fail
    go_ret
    exact ⟨by rw [HV.out]; unfold nodeX; rw [if_pos rfl, ← HA.out]; rfl, HB5.out⟩
  have e1 : (k == 1) = false := by rw [beq_eq_false_iff_ne]; exact k1
  by_cases k2 : k = 2
  · subst k2
    obtain ⟨A1, hA1⟩ : ∃ A : List UInt8, A = [91] ++ X3 := ⟨_, rfl⟩
    have hcat1 : ∀ wx : World, (Op.stringOp .add { data := #[91] } (ba X3)).run Try.prog wx = .ok (.string (ba A1)) wx := cat_bb (P := Try.prog) [91] X3 A1 hA1 (by simp; omega)
    obtain ⟨A2, hA2⟩ : ∃ A : List UInt8, A = A1 ++ [93, 61] := ⟨_, rfl⟩
    have hcat2 : ∀ wx : World, (Op.stringOp .add (ba A1) { data := #[93, 61] }).run Try.prog wx = .ok (.string (ba A2)) wx := cat_bb (P := Try.prog) A1 [93, 61] A2 hA2 (by rw [hA1]; simp; omega)
    obtain ⟨A3, hA3⟩ : ∃ A : List UInt8, A = A2 ++ X4 := ⟨_, rfl⟩
    have hcat3 : ∀ wx : World, (Op.stringOp .add (ba A2) (ba X4)).run Try.prog wx = .ok (.string (ba A3)) wx := cat_bb (P := Try.prog) A2 X4 A3 hA3 (by rw [hA2, hA1]; simp; omega)
    have HA := Lib.hid (show A3 = [91] ++ X3 ++ [93, 61] ++ X4 by rw [hA3, hA2, hA1])
    clear hA1 hA2 hA3
    go_enter Try.func11, Try.ntmps11
    go_wp2_with fail
    refine wp_region_held_drew (S := (fun w' => w'.cell? ⟨w.heap.size, 1, none⟩ = some (.int .i64 c) ∧ w'.cell? ⟨w.heap.size, 2, none⟩ = some (.int .i64 r) ∧ w'.cell? ⟨w.heap.size, 3, none⟩ = some (.int .u64 (a : Nat)) ∧ w'.cell? ⟨w.heap.size, 4, none⟩ = some (.int .u64 (v : Nat)))) (by kernel_rfl) (by (try dsimp only); exact ⟨n1, n2, n3, n4⟩) (fun hHeld => ?_)
    refine wpAnyH_take (i := 0) (oi := ⟨some 22, _, _, _, _, _⟩) (v := ?_) rfl (by kernel_rfl) (by kernel_rfl) (by kernel_rfl) (fun _ _ _ h => h) (Or.inl ⟨by rfl, ?_⟩) (by assumption) ?_
    rotate_left
    · (intro w hSw; (try dsimp only at hSw); go_simp; try with_reducible rfl)
    simp only [Act.put, List.setIfInBounds_toArray, List.set_cons_zero, List.set_cons_succ]
    refine wpAnyH_take (i := 1) (oi := ⟨some 23, _, _, _, _, _⟩) (v := ?_) rfl (by kernel_rfl) (by kernel_rfl) (by kernel_rfl) (fun _ _ _ h => h) (Or.inl ⟨by rfl, ?_⟩) (by assumption) ?_
    rotate_left
    · (intro w hSw; (try dsimp only at hSw); go_simp; try with_reducible rfl)
    simp only [Act.put, List.setIfInBounds_toArray, List.set_cons_zero, List.set_cons_succ]
    refine wpAnyH_take (i := 5) (oi := ⟨some 27, _, _, _, _, _⟩) (v := ?_) rfl (by kernel_rfl) (by kernel_rfl) (by kernel_rfl) (fun _ _ _ h => h) (Or.inl ⟨by rfl, ?_⟩) (by assumption) ?_
    rotate_left
    · (intro w hSw; (try dsimp only at hSw); go_simp; try with_reducible rfl)
    simp only [Act.put, List.setIfInBounds_toArray, List.set_cons_zero, List.set_cons_succ]
    refine wpAnyH_take (i := 6) (oi := ⟨some 28, _, _, _, _, _⟩) (v := ?_) rfl (by kernel_rfl) (by kernel_rfl) (by kernel_rfl) (fun _ _ _ h => h) (Or.inl ⟨by rfl, ?_⟩) (by assumption) ?_
    rotate_left
    · (intro w hSw; (try dsimp only at hSw); go_simp; try with_reducible rfl)
    simp only [Act.put, List.setIfInBounds_toArray, List.set_cons_zero, List.set_cons_succ]
    refine wpAnyH_ready (rs := [2]) (by kernel_rfl) (by simp) ?_
    refine AllReadyH.cons (o := ⟨some 24, _, _, _, _, _⟩) rfl (fun K hK => ?_) AllReadyH.nil
    go_simp
    go_at_call 28; refine (HHexA.out _).mono ?_; rintro e w3 ⟨rfl, hb⟩; have HN3 := Lib.hid (show Blk w3 25 w.heap.size _ from Blk.below (blk_drew HN.out) hb); have HB3 := Lib.hid (below_trans (HB.out.drew) hb); clear hb; obtain ⟨n0, n1, n2, n3, n4, n5⟩ := blk_cells6' HN3.out
    refine hK.out _ _ (by (try dsimp only); exact ⟨n1, n2, n3, n4⟩) ?_
    clear hK K hHeld
    intro hHeld
    try simp only [Act.put, List.setIfInBounds_toArray, List.set_cons_zero, List.set_cons_succ]
    refine wpAnyH_take (i := 3) (oi := ⟨some 25, _, _, _, _, _⟩) (v := ?_) rfl (by kernel_rfl) (by kernel_rfl) (by kernel_rfl) (fun _ _ _ h => h) (Or.inl ⟨by rfl, ?_⟩) (by assumption) ?_
    rotate_left
    · (intro w hSw; (try dsimp only at hSw); go_simp; try with_reducible rfl)
    simp only [Act.put, List.setIfInBounds_toArray, List.set_cons_zero, List.set_cons_succ]
    refine wpAnyH_take (i := 4) (oi := ⟨some 26, _, _, _, _, _⟩) (v := ?_) rfl (by kernel_rfl) (by kernel_rfl) (by kernel_rfl) (fun _ _ _ h => h) (Or.inl ⟨by rfl, ?_⟩) (by assumption) ?_
    rotate_left
    · (intro w hSw; (try dsimp only at hSw); go_simp; try with_reducible rfl)
    simp only [Act.put, List.setIfInBounds_toArray, List.set_cons_zero, List.set_cons_succ]
    refine wpAnyH_ready (rs := [7]) (by kernel_rfl) (by simp) ?_
    refine AllReadyH.cons (o := ⟨some 29, _, _, _, _, _⟩) rfl (fun K hK => ?_) AllReadyH.nil
    go_simp
    go_at_call 28; refine (HHex.out _).mono ?_; rintro e w4 ⟨rfl, hb⟩; have HN4 := Lib.hid (show Blk w4 25 w.heap.size _ from Blk.below HN3.out hb); have HB4 := Lib.hid (below_trans HB3.out hb); clear hb; obtain ⟨n0, n1, n2, n3, n4, n5⟩ := blk_cells6' HN4.out
    refine hK.out _ _ (by (try dsimp only); exact ⟨n1, n2, n3, n4⟩) ?_
    clear hK K hHeld
    intro hHeld
    try simp only [Act.put, List.setIfInBounds_toArray, List.set_cons_zero, List.set_cons_succ]
    refine wpAnyH_take (i := 8) (oi := ⟨some 30, _, _, _, _, _⟩) (v := ?_) rfl (by kernel_rfl) (by kernel_rfl) (by kernel_rfl) (fun _ _ _ h => h) (Or.inl ⟨by rfl, ?_⟩) (by assumption) ?_
    rotate_left
    · (intro w hSw; (try dsimp only at hSw); go_simp; try with_reducible rfl)
    simp only [Act.put, List.setIfInBounds_toArray, List.set_cons_zero, List.set_cons_succ]
    refine wpAnyH_take (i := 9) (oi := ⟨some 2, _, _, _, _, _⟩) (v := ?_) rfl (by kernel_rfl) (by kernel_rfl) (by kernel_rfl) (fun _ _ _ h => h) (Or.inl ⟨by rfl, ?_⟩) (by assumption) ?_
    rotate_left
    · (intro w hSw; (try dsimp only at hSw); go_simp; try with_reducible rfl)
    simp only [Act.put, List.setIfInBounds_toArray, List.set_cons_zero, List.set_cons_succ]
    refine wpAnyH_done (by kernel_rfl) ?_ _
    go_wp2_with fail
    go_ret
    exact ⟨by rw [HV.out]; unfold nodeX; rw [if_neg k1, if_pos rfl, ← HA.out]; rfl, HB4.out⟩
  have e2 : (k == 2) = false := by rw [beq_eq_false_iff_ne]; exact k2
  by_cases k3 : k = 3
  · subst k3
    obtain ⟨A1, hA1⟩ : ∃ A : List UInt8, A = [102, 97, 117, 108, 116, 115, 32] ++ X1 := ⟨_, rfl⟩
    have hcat1 : ∀ wx : World, (Op.stringOp .add { data := #[102, 97, 117, 108, 116, 115, 32] } (ba X1)).run Try.prog wx = .ok (.string (ba A1)) wx := cat_bb (P := Try.prog) [102, 97, 117, 108, 116, 115, 32] X1 A1 hA1 (by simp; omega)
    obtain ⟨A2, hA2⟩ : ∃ A : List UInt8, A = A1 ++ [61] := ⟨_, rfl⟩
    have hcat2 : ∀ wx : World, (Op.stringOp .add (ba A1) { data := #[61] }).run Try.prog wx = .ok (.string (ba A2)) wx := cat_bb (P := Try.prog) A1 [61] A2 hA2 (by rw [hA1]; simp; omega)
    obtain ⟨A3, hA3⟩ : ∃ A : List UInt8, A = A2 ++ X4 := ⟨_, rfl⟩
    have hcat3 : ∀ wx : World, (Op.stringOp .add (ba A2) (ba X4)).run Try.prog wx = .ok (.string (ba A3)) wx := cat_bb (P := Try.prog) A2 X4 A3 hA3 (by rw [hA2, hA1]; simp; omega)
    have HA := Lib.hid (show A3 = [102, 97, 117, 108, 116, 115, 32] ++ X1 ++ [61] ++ X4 by rw [hA3, hA2, hA1])
    clear hA1 hA2 hA3
    go_enter Try.func11, Try.ntmps11
    go_wp2_with fail
    refine wp_region_held_drew (S := (fun w' => w'.cell? ⟨w.heap.size, 1, none⟩ = some (.int .i64 c) ∧ w'.cell? ⟨w.heap.size, 2, none⟩ = some (.int .i64 r) ∧ w'.cell? ⟨w.heap.size, 3, none⟩ = some (.int .u64 (a : Nat)) ∧ w'.cell? ⟨w.heap.size, 4, none⟩ = some (.int .u64 (v : Nat)))) (by kernel_rfl) (by (try dsimp only); exact ⟨n1, n2, n3, n4⟩) (fun hHeld => ?_)
    refine wpAnyH_take (i := 0) (oi := ⟨some 33, _, _, _, _, _⟩) (v := ?_) rfl (by kernel_rfl) (by kernel_rfl) (by kernel_rfl) (fun _ _ _ h => h) (Or.inl ⟨by rfl, ?_⟩) (by assumption) ?_
    rotate_left
    · (intro w hSw; (try dsimp only at hSw); go_simp; try with_reducible rfl)
    simp only [Act.put, List.setIfInBounds_toArray, List.set_cons_zero, List.set_cons_succ]
    refine wpAnyH_take (i := 1) (oi := ⟨some 34, _, _, _, _, _⟩) (v := ?_) rfl (by kernel_rfl) (by kernel_rfl) (by kernel_rfl) (fun _ _ _ h => h) (Or.inl ⟨by rfl, ?_⟩) (by assumption) ?_
    rotate_left
    · (intro w hSw; (try dsimp only at hSw); go_simp; try with_reducible rfl)
    simp only [Act.put, List.setIfInBounds_toArray, List.set_cons_zero, List.set_cons_succ]
    refine wpAnyH_take (i := 5) (oi := ⟨some 38, _, _, _, _, _⟩) (v := ?_) rfl (by kernel_rfl) (by kernel_rfl) (by kernel_rfl) (fun _ _ _ h => h) (Or.inl ⟨by rfl, ?_⟩) (by assumption) ?_
    rotate_left
    · (intro w hSw; (try dsimp only at hSw); go_simp; try with_reducible rfl)
    simp only [Act.put, List.setIfInBounds_toArray, List.set_cons_zero, List.set_cons_succ]
    refine wpAnyH_take (i := 6) (oi := ⟨some 39, _, _, _, _, _⟩) (v := ?_) rfl (by kernel_rfl) (by kernel_rfl) (by kernel_rfl) (fun _ _ _ h => h) (Or.inl ⟨by rfl, ?_⟩) (by assumption) ?_
    rotate_left
    · (intro w hSw; (try dsimp only at hSw); go_simp; try with_reducible rfl)
    simp only [Act.put, List.setIfInBounds_toArray, List.set_cons_zero, List.set_cons_succ]
    refine wpAnyH_ready (rs := [2]) (by kernel_rfl) (by simp) ?_
    refine AllReadyH.cons (o := ⟨some 35, _, _, _, _, _⟩) rfl (fun K hK => ?_) AllReadyH.nil
    go_simp
    go_at_call 26; refine (HInt.out _).mono ?_; rintro e w3 ⟨rfl, m3, hw3⟩; have HN3 := Lib.hid (show Blk w3 25 w.heap.size _ from by rw [hw3]; exact Blk.dn (blk_drew HN.out) m3); have HB3 := Lib.hid (show Below w.heap.size w w3 from by rw [hw3]; exact below_drewN (HB.out.drew) m3); clear hw3; obtain ⟨n0, n1, n2, n3, n4, n5⟩ := blk_cells6' HN3.out
    refine hK.out _ _ (by (try dsimp only); exact ⟨n1, n2, n3, n4⟩) ?_
    clear hK K hHeld
    intro hHeld
    try simp only [Act.put, List.setIfInBounds_toArray, List.set_cons_zero, List.set_cons_succ]
    refine wpAnyH_take (i := 3) (oi := ⟨some 36, _, _, _, _, _⟩) (v := ?_) rfl (by kernel_rfl) (by kernel_rfl) (by kernel_rfl) (fun _ _ _ h => h) (Or.inl ⟨by rfl, ?_⟩) (by assumption) ?_
    rotate_left
    · (intro w hSw; (try dsimp only at hSw); go_simp; try with_reducible rfl)
    simp only [Act.put, List.setIfInBounds_toArray, List.set_cons_zero, List.set_cons_succ]
    refine wpAnyH_take (i := 4) (oi := ⟨some 37, _, _, _, _, _⟩) (v := ?_) rfl (by kernel_rfl) (by kernel_rfl) (by kernel_rfl) (fun _ _ _ h => h) (Or.inl ⟨by rfl, ?_⟩) (by assumption) ?_
    rotate_left
    · (intro w hSw; (try dsimp only at hSw); go_simp; try with_reducible rfl)
    simp only [Act.put, List.setIfInBounds_toArray, List.set_cons_zero, List.set_cons_succ]
    refine wpAnyH_ready (rs := [7]) (by kernel_rfl) (by simp) ?_
    refine AllReadyH.cons (o := ⟨some 40, _, _, _, _, _⟩) rfl (fun K hK => ?_) AllReadyH.nil
    go_simp
    go_at_call 28; refine (HHex.out _).mono ?_; rintro e w4 ⟨rfl, hb⟩; have HN4 := Lib.hid (show Blk w4 25 w.heap.size _ from Blk.below HN3.out hb); have HB4 := Lib.hid (below_trans HB3.out hb); clear hb; obtain ⟨n0, n1, n2, n3, n4, n5⟩ := blk_cells6' HN4.out
    refine hK.out _ _ (by (try dsimp only); exact ⟨n1, n2, n3, n4⟩) ?_
    clear hK K hHeld
    intro hHeld
    try simp only [Act.put, List.setIfInBounds_toArray, List.set_cons_zero, List.set_cons_succ]
    refine wpAnyH_take (i := 8) (oi := ⟨some 41, _, _, _, _, _⟩) (v := ?_) rfl (by kernel_rfl) (by kernel_rfl) (by kernel_rfl) (fun _ _ _ h => h) (Or.inl ⟨by rfl, ?_⟩) (by assumption) ?_
    rotate_left
    · (intro w hSw; (try dsimp only at hSw); go_simp; try with_reducible rfl)
    simp only [Act.put, List.setIfInBounds_toArray, List.set_cons_zero, List.set_cons_succ]
    refine wpAnyH_take (i := 9) (oi := ⟨some 2, _, _, _, _, _⟩) (v := ?_) rfl (by kernel_rfl) (by kernel_rfl) (by kernel_rfl) (fun _ _ _ h => h) (Or.inl ⟨by rfl, ?_⟩) (by assumption) ?_
    rotate_left
    · (intro w hSw; (try dsimp only at hSw); go_simp; try with_reducible rfl)
    simp only [Act.put, List.setIfInBounds_toArray, List.set_cons_zero, List.set_cons_succ]
    refine wpAnyH_done (by kernel_rfl) ?_ _
    go_wp2_with fail
    go_ret
    exact ⟨by rw [HV.out]; unfold nodeX; rw [if_neg k1, if_neg k2, if_pos rfl, ← HA.out]; rfl, HB4.out⟩
  have e3 : (k == 3) = false := by rw [beq_eq_false_iff_ne]; exact k3
  by_cases k7 : k = 7
  · subst k7
    go_enter Try.func11, Try.ntmps11
    go_wp2_with fail
    go_ret
    exact ⟨by rw [HV.out]; unfold nodeX; rw [if_neg k1, if_neg k2, if_neg k3, if_pos rfl]; rfl, HB.out⟩
  have e7 : (k == 7) = false := by rw [beq_eq_false_iff_ne]; exact k7
  have HV := Lib.hid (show R = argsX k (printL args) from by rw [HV.out]; unfold nodeX; rw [if_neg k1, if_neg k2, if_neg k3, if_neg k7])
  by_cases h6 : k = 6 ∧ ln = 1
  · obtain ⟨rfl, rfl⟩ := h6
    obtain ⟨u, rfl⟩ := List.length_eq_one_iff.1 hlen
    have hpart := HR.out.part (j := 0) (by simp)
    simp only [List.getElem_cons_zero, Nat.zero_mul, Nat.add_zero] at hpart
    obtain ⟨g, off, k', co', rg', ad', va', q', l', cp', rfl, c0, c1, c2, c3, c4, c5, hu⟩ := hpart
    have hcu : countT u ≤ 1000 := by have := HLC.out; simp only [countL] at this; omega
    have hlu := print_len u (CT.At.fits _ _ hu)
    have hil := innerL_len 3 (levelT u, printT u)
    simp only at hil
    have HC := Lib.hid (inner_any u (HI.out u (by simp)) 3 (by decide) _ S _ hcu hu)
    have HV2 := Lib.hid (show R = [126] ++ innerL 3 (levelT u, printT u) from by rw [HV.out]; rfl)
    clear hu
    generalize innerL 3 (levelT u, printT u) = X at *
    obtain ⟨A1, hA1⟩ : ∃ A : List UInt8, A = [126] ++ X := ⟨_, rfl⟩
    have hcat1 : ∀ wx : World, (Op.stringOp .add { data := #[126] } (ba X)).run Try.prog wx = .ok (.string (ba A1)) wx := cat_bb (P := Try.prog) [126] X A1 hA1 (by simp; omega)
    have HA := Lib.hid (show A1 = [126] ++ X by rw [hA1])
    clear hA1
    clear HHex HHexA HInt HReg
    go_enter Try.func11, Try.ntmps11
    go_wp2_with fail
    refine (HC.out).mono ?_
    rintro e w3 ⟨rfl, hb⟩
    have HB3 := Lib.hid (below_trans HB.out hb)
    clear hb
    go_wp2_with fail
    go_ret
    exact ⟨by rw [HV2.out, ← HA.out]; rfl, HB3.out⟩
  by_cases h4 : k = 4 ∧ ln = 2
  · obtain ⟨rfl, rfl⟩ := h4
    obtain ⟨u, t, rfl⟩ := list2 hlen
    have hpart := HR.out.part (j := 0) (by simp)
    simp only [List.getElem_cons_zero, Nat.zero_mul, Nat.add_zero] at hpart
    obtain ⟨g, off, k', co', rg', ad', va', q', l', cp', rfl, c0, c1, c2, c3, c4, c5, hu⟩ := hpart
    have hpart := HR.out.part (j := 1) (by simp)
    simp only [List.getElem_cons_zero, List.getElem_cons_succ, Nat.one_mul] at hpart
    obtain ⟨g2, off2, j0, j1, j2, j3, j4, jp, jl, jc, hgo, d0, d1, d2, d3, d4, d5, ht⟩ := hpart
    injection hgo with hgo
    injection hgo with hg1 hg2
    subst hg1 hg2
    have hcc := HLC.out
    simp only [countL] at hcc
    have hcu : countT u ≤ 1000 := by omega
    have hct : countT t ≤ 1000 := by omega
    have hlu := print_len u (CT.At.fits _ _ hu)
    have hlt := print_len t (CT.At.fits _ _ ht)
    have hil := innerL_len 2 (levelT u, printT u)
    have hjl := innerL_len 3 (levelT t, printT t)
    simp only at hil hjl
    have HC := Lib.hid (inner_any u (HI.out u (by simp)) 2 (by decide) _ S _ hcu (CT.At.drew hu))
    have HD := Lib.hid (fun w2 S2 cs2 (h2 : CT.At w2 S2 t cs2) => inner_any t (HI.out t (by simp)) 3 (by decide) w2 S2 cs2 hct h2)
    have HT := Lib.hid ht
    have HV2 := Lib.hid (show R = innerL 2 (levelT u, printT u) ++ [32, 47, 92, 32] ++ innerL 3 (levelT t, printT t) from by rw [HV.out]; rfl)
    clear hu ht
    generalize innerL 2 (levelT u, printT u) = X at *
    generalize innerL 3 (levelT t, printT t) = Y at *
    obtain ⟨A1, hA1⟩ : ∃ A : List UInt8, A = X ++ [32, 47, 92, 32] := ⟨_, rfl⟩
    have hcat1 : ∀ wx : World, (Op.stringOp .add (ba X) { data := #[32, 47, 92, 32] }).run Try.prog wx = .ok (.string (ba A1)) wx := cat_bb (P := Try.prog) X [32, 47, 92, 32] A1 hA1 (by simp; omega)
    obtain ⟨A2, hA2⟩ : ∃ A : List UInt8, A = A1 ++ Y := ⟨_, rfl⟩
    have hcat2 : ∀ wx : World, (Op.stringOp .add (ba A1) (ba Y)).run Try.prog wx = .ok (.string (ba A2)) wx := cat_bb (P := Try.prog) A1 Y A2 hA2 (by rw [hA1]; simp; omega)
    have HA := Lib.hid (show A2 = X ++ [32, 47, 92, 32] ++ Y by rw [hA2, hA1])
    clear hA1 hA2
    clear HHex HHexA HInt HReg
    go_enter Try.func11, Try.ntmps11
    go_wp2_with fail
    refine wp_region_held_drew (S := (fun w' => w'.cell? ⟨w.heap.size, 5, none⟩ = some (.slice (some ⟨g, off, none⟩) 2 cap) ∧ w'.cell? ⟨g, off, none⟩ = some (.int .i64 k') ∧ w'.cell? ⟨g, off + 1, none⟩ = some (.int .i64 co') ∧ w'.cell? ⟨g, off + 2, none⟩ = some (.int .i64 rg') ∧ w'.cell? ⟨g, off + 3, none⟩ = some (.int .u64 ad') ∧ w'.cell? ⟨g, off + 4, none⟩ = some (.int .u64 va') ∧ w'.cell? ⟨g, off + 5, none⟩ = some (.slice q' l' cp') ∧ w'.cell? ⟨g, off + 6, none⟩ = some (.int .i64 j0) ∧ w'.cell? ⟨g, off + 6 + 1, none⟩ = some (.int .i64 j1) ∧ w'.cell? ⟨g, off + 6 + 2, none⟩ = some (.int .i64 j2) ∧ w'.cell? ⟨g, off + 6 + 3, none⟩ = some (.int .u64 j3) ∧ w'.cell? ⟨g, off + 6 + 4, none⟩ = some (.int .u64 j4) ∧ w'.cell? ⟨g, off + 6 + 5, none⟩ = some (.slice jp jl jc))) (by kernel_rfl) (by (try dsimp only); exact ⟨n5, c0, c1, c2, c3, c4, c5, d0, d1, d2, d3, d4, d5⟩) (fun hHeld => ?_)
    refine wpAnyH_take (i := 0) (oi := ⟨some 70, _, _, _, _, _⟩) (v := ?_) rfl (by kernel_rfl) (by kernel_rfl) (by kernel_rfl) (fun _ _ _ h => h) (Or.inl ⟨by rfl, ?_⟩) (by assumption) ?_
    rotate_left
    · (intro w hSw; (try dsimp only at hSw); go_simp; try with_reducible rfl)
    simp only [Act.put, List.setIfInBounds_toArray, List.set_cons_zero, List.set_cons_succ]
    refine wpAnyH_take (i := 1) (oi := ⟨some 71, _, _, _, _, _⟩) (v := ?_) rfl (by kernel_rfl) (by kernel_rfl) (by kernel_rfl) (fun _ _ _ h => h) (Or.inl ⟨by rfl, ?_⟩) (by assumption) ?_
    rotate_left
    · (intro w hSw; (try dsimp only at hSw); go_simp; try with_reducible rfl)
    simp only [Act.put, List.setIfInBounds_toArray, List.set_cons_zero, List.set_cons_succ]
    refine wpAnyH_take (i := 2) (oi := ⟨some 72, _, _, _, _, _⟩) (v := ?_) rfl (by kernel_rfl) (by kernel_rfl) (by kernel_rfl) (fun _ _ _ h => h) (Or.inl ⟨by rfl, ?_⟩) (by assumption) ?_
    rotate_left
    · (intro w hSw; (try dsimp only at hSw); go_simp; try with_reducible rfl)
    simp only [Act.put, List.setIfInBounds_toArray, List.set_cons_zero, List.set_cons_succ]
    refine wpAnyH_take (i := 3) (oi := ⟨some 73, _, _, _, _, _⟩) (v := ?_) rfl (by kernel_rfl) (by kernel_rfl) (by kernel_rfl) (fun _ _ _ h => h) (Or.inl ⟨by rfl, ?_⟩) (by assumption) ?_
    rotate_left
    · (intro w hSw; (try dsimp only at hSw); go_simp; try with_reducible rfl)
    simp only [Act.put, List.setIfInBounds_toArray, List.set_cons_zero, List.set_cons_succ]
    refine wpAnyH_take (i := 6) (oi := ⟨some 76, _, _, _, _, _⟩) (v := ?_) rfl (by kernel_rfl) (by kernel_rfl) (by kernel_rfl) (fun _ _ _ h => h) (Or.inl ⟨by rfl, ?_⟩) (by assumption) ?_
    rotate_left
    · (intro w hSw; (try dsimp only at hSw); go_simp; try with_reducible rfl)
    simp only [Act.put, List.setIfInBounds_toArray, List.set_cons_zero, List.set_cons_succ]
    refine wpAnyH_take (i := 7) (oi := ⟨some 77, _, _, _, _, _⟩) (v := ?_) rfl (by kernel_rfl) (by kernel_rfl) (by kernel_rfl) (fun _ _ _ h => h) (Or.inl ⟨by rfl, ?_⟩) (by assumption) ?_
    rotate_left
    · (intro w hSw; (try dsimp only at hSw); go_simp; try with_reducible rfl)
    simp only [Act.put, List.setIfInBounds_toArray, List.set_cons_zero, List.set_cons_succ]
    refine wpAnyH_take (i := 8) (oi := ⟨some 78, _, _, _, _, _⟩) (v := ?_) rfl (by kernel_rfl) (by kernel_rfl) (by kernel_rfl) (fun _ _ _ h => h) (Or.inl ⟨by rfl, ?_⟩) (by assumption) ?_
    rotate_left
    · (intro w hSw; (try dsimp only at hSw); go_simp; try with_reducible rfl)
    simp only [Act.put, List.setIfInBounds_toArray, List.set_cons_zero, List.set_cons_succ]
    refine wpAnyH_take (i := 9) (oi := ⟨some 79, _, _, _, _, _⟩) (v := ?_) rfl (by kernel_rfl) (by kernel_rfl) (by kernel_rfl) (fun _ _ _ h => h) (Or.inl ⟨by rfl, ?_⟩) (by assumption) ?_
    rotate_left
    · (intro w hSw; (try dsimp only at hSw); go_simp; try with_reducible rfl)
    simp only [Act.put, List.setIfInBounds_toArray, List.set_cons_zero, List.set_cons_succ]
    refine wpAnyH_ready (rs := [4]) (by kernel_rfl) (by simp) ?_
    refine AllReadyH.cons (o := ⟨some 74, _, _, _, _, _⟩) rfl (fun K hK => ?_) AllReadyH.nil
    go_simp
    go_at_call 29; refine (HC.out).mono ?_; rintro e w3 ⟨rfl, hb⟩; have HT3 := Lib.hid (HT.out.drew.below hb); have HB3 := Lib.hid (below_trans HB.out.drew hb); have n5 := cell_below_drew n5 hb; have c0 := cell_below_drew c0 hb; have c1 := cell_below_drew c1 hb; have c2 := cell_below_drew c2 hb; have c3 := cell_below_drew c3 hb; have c4 := cell_below_drew c4 hb; have c5 := cell_below_drew c5 hb; have d0 := cell_below_drew d0 hb; have d1 := cell_below_drew d1 hb; have d2 := cell_below_drew d2 hb; have d3 := cell_below_drew d3 hb; have d4 := cell_below_drew d4 hb; have d5 := cell_below_drew d5 hb; clear hb
    refine hK.out _ _ (by (try dsimp only); exact ⟨n5, c0, c1, c2, c3, c4, c5, d0, d1, d2, d3, d4, d5⟩) ?_
    clear hK K hHeld
    intro hHeld
    try simp only [Act.put, List.setIfInBounds_toArray, List.set_cons_zero, List.set_cons_succ]
    refine wpAnyH_take (i := 5) (oi := ⟨some 75, _, _, _, _, _⟩) (v := ?_) rfl (by kernel_rfl) (by kernel_rfl) (by kernel_rfl) (fun _ _ _ h => h) (Or.inl ⟨by rfl, ?_⟩) (by assumption) ?_
    rotate_left
    · (intro w hSw; (try dsimp only at hSw); go_simp; try with_reducible rfl)
    simp only [Act.put, List.setIfInBounds_toArray, List.set_cons_zero, List.set_cons_succ]
    refine wpAnyH_ready (rs := [10]) (by kernel_rfl) (by simp) ?_
    refine AllReadyH.cons (o := ⟨some 80, _, _, _, _, _⟩) rfl (fun K hK => ?_) AllReadyH.nil
    go_simp
    go_at_call 29; refine (HD.out _ _ _ HT3.out).mono ?_; rintro e w4 ⟨rfl, hb⟩; have HB4 := Lib.hid (below_trans HB3.out hb); have n5 := cell_below n5 hb; have c0 := cell_below c0 hb; have c1 := cell_below c1 hb; have c2 := cell_below c2 hb; have c3 := cell_below c3 hb; have c4 := cell_below c4 hb; have c5 := cell_below c5 hb; have d0 := cell_below d0 hb; have d1 := cell_below d1 hb; have d2 := cell_below d2 hb; have d3 := cell_below d3 hb; have d4 := cell_below d4 hb; have d5 := cell_below d5 hb; clear hb
    refine hK.out _ _ (by (try dsimp only); exact ⟨n5, c0, c1, c2, c3, c4, c5, d0, d1, d2, d3, d4, d5⟩) ?_
    clear hK K hHeld
    intro hHeld
    try simp only [Act.put, List.setIfInBounds_toArray, List.set_cons_zero, List.set_cons_succ]
    refine wpAnyH_take (i := 11) (oi := ⟨some 81, _, _, _, _, _⟩) (v := ?_) rfl (by kernel_rfl) (by kernel_rfl) (by kernel_rfl) (fun _ _ _ h => h) (Or.inl ⟨by rfl, ?_⟩) (by assumption) ?_
    rotate_left
    · (intro w hSw; (try dsimp only at hSw); go_simp; try with_reducible rfl)
    simp only [Act.put, List.setIfInBounds_toArray, List.set_cons_zero, List.set_cons_succ]
    refine wpAnyH_take (i := 12) (oi := ⟨some 2, _, _, _, _, _⟩) (v := ?_) rfl (by kernel_rfl) (by kernel_rfl) (by kernel_rfl) (fun _ _ _ h => h) (Or.inl ⟨by rfl, ?_⟩) (by assumption) ?_
    rotate_left
    · (intro w hSw; (try dsimp only at hSw); go_simp; try with_reducible rfl)
    simp only [Act.put, List.setIfInBounds_toArray, List.set_cons_zero, List.set_cons_succ]
    refine wpAnyH_done (by kernel_rfl) ?_ _
    go_wp2_with fail
    go_ret
    exact ⟨by rw [HV2.out, ← HA.out]; rfl, HB4.out⟩
  by_cases h5 : k = 5 ∧ ln = 2
  · obtain ⟨rfl, rfl⟩ := h5
    obtain ⟨u, t, rfl⟩ := list2 hlen
    have hpart := HR.out.part (j := 0) (by simp)
    simp only [List.getElem_cons_zero, Nat.zero_mul, Nat.add_zero] at hpart
    obtain ⟨g, off, k', co', rg', ad', va', q', l', cp', rfl, c0, c1, c2, c3, c4, c5, hu⟩ := hpart
    have hpart := HR.out.part (j := 1) (by simp)
    simp only [List.getElem_cons_zero, List.getElem_cons_succ, Nat.one_mul] at hpart
    obtain ⟨g2, off2, j0, j1, j2, j3, j4, jp, jl, jc, hgo, d0, d1, d2, d3, d4, d5, ht⟩ := hpart
    injection hgo with hgo
    injection hgo with hg1 hg2
    subst hg1 hg2
    have hcc := HLC.out
    simp only [countL] at hcc
    have hcu : countT u ≤ 1000 := by omega
    have hct : countT t ≤ 1000 := by omega
    have hlu := print_len u (CT.At.fits _ _ hu)
    have hlt := print_len t (CT.At.fits _ _ ht)
    have hil := innerL_len 1 (levelT u, printT u)
    have hjl := innerL_len 2 (levelT t, printT t)
    simp only at hil hjl
    have HC := Lib.hid (inner_any u (HI.out u (by simp)) 1 (by decide) _ S _ hcu (CT.At.drew hu))
    have HD := Lib.hid (fun w2 S2 cs2 (h2 : CT.At w2 S2 t cs2) => inner_any t (HI.out t (by simp)) 2 (by decide) w2 S2 cs2 hct h2)
    have HT := Lib.hid ht
    have HV2 := Lib.hid (show R = innerL 1 (levelT u, printT u) ++ [32, 92, 47, 32] ++ innerL 2 (levelT t, printT t) from by rw [HV.out]; rfl)
    clear hu ht
    generalize innerL 1 (levelT u, printT u) = X at *
    generalize innerL 2 (levelT t, printT t) = Y at *
    obtain ⟨A1, hA1⟩ : ∃ A : List UInt8, A = X ++ [32, 92, 47, 32] := ⟨_, rfl⟩
    have hcat1 : ∀ wx : World, (Op.stringOp .add (ba X) { data := #[32, 92, 47, 32] }).run Try.prog wx = .ok (.string (ba A1)) wx := cat_bb (P := Try.prog) X [32, 92, 47, 32] A1 hA1 (by simp; omega)
    obtain ⟨A2, hA2⟩ : ∃ A : List UInt8, A = A1 ++ Y := ⟨_, rfl⟩
    have hcat2 : ∀ wx : World, (Op.stringOp .add (ba A1) (ba Y)).run Try.prog wx = .ok (.string (ba A2)) wx := cat_bb (P := Try.prog) A1 Y A2 hA2 (by rw [hA1]; simp; omega)
    have HA := Lib.hid (show A2 = X ++ [32, 92, 47, 32] ++ Y by rw [hA2, hA1])
    clear hA1 hA2
    clear HHex HHexA HInt HReg
    go_enter Try.func11, Try.ntmps11
    go_wp2_with fail
    refine wp_region_held_drew (S := (fun w' => w'.cell? ⟨w.heap.size, 5, none⟩ = some (.slice (some ⟨g, off, none⟩) 2 cap) ∧ w'.cell? ⟨g, off, none⟩ = some (.int .i64 k') ∧ w'.cell? ⟨g, off + 1, none⟩ = some (.int .i64 co') ∧ w'.cell? ⟨g, off + 2, none⟩ = some (.int .i64 rg') ∧ w'.cell? ⟨g, off + 3, none⟩ = some (.int .u64 ad') ∧ w'.cell? ⟨g, off + 4, none⟩ = some (.int .u64 va') ∧ w'.cell? ⟨g, off + 5, none⟩ = some (.slice q' l' cp') ∧ w'.cell? ⟨g, off + 6, none⟩ = some (.int .i64 j0) ∧ w'.cell? ⟨g, off + 6 + 1, none⟩ = some (.int .i64 j1) ∧ w'.cell? ⟨g, off + 6 + 2, none⟩ = some (.int .i64 j2) ∧ w'.cell? ⟨g, off + 6 + 3, none⟩ = some (.int .u64 j3) ∧ w'.cell? ⟨g, off + 6 + 4, none⟩ = some (.int .u64 j4) ∧ w'.cell? ⟨g, off + 6 + 5, none⟩ = some (.slice jp jl jc))) (by kernel_rfl) (by (try dsimp only); exact ⟨n5, c0, c1, c2, c3, c4, c5, d0, d1, d2, d3, d4, d5⟩) (fun hHeld => ?_)
    refine wpAnyH_take (i := 0) (oi := ⟨some 92, _, _, _, _, _⟩) (v := ?_) rfl (by kernel_rfl) (by kernel_rfl) (by kernel_rfl) (fun _ _ _ h => h) (Or.inl ⟨by rfl, ?_⟩) (by assumption) ?_
    rotate_left
    · (intro w hSw; (try dsimp only at hSw); go_simp; try with_reducible rfl)
    simp only [Act.put, List.setIfInBounds_toArray, List.set_cons_zero, List.set_cons_succ]
    refine wpAnyH_take (i := 1) (oi := ⟨some 93, _, _, _, _, _⟩) (v := ?_) rfl (by kernel_rfl) (by kernel_rfl) (by kernel_rfl) (fun _ _ _ h => h) (Or.inl ⟨by rfl, ?_⟩) (by assumption) ?_
    rotate_left
    · (intro w hSw; (try dsimp only at hSw); go_simp; try with_reducible rfl)
    simp only [Act.put, List.setIfInBounds_toArray, List.set_cons_zero, List.set_cons_succ]
    refine wpAnyH_take (i := 2) (oi := ⟨some 94, _, _, _, _, _⟩) (v := ?_) rfl (by kernel_rfl) (by kernel_rfl) (by kernel_rfl) (fun _ _ _ h => h) (Or.inl ⟨by rfl, ?_⟩) (by assumption) ?_
    rotate_left
    · (intro w hSw; (try dsimp only at hSw); go_simp; try with_reducible rfl)
    simp only [Act.put, List.setIfInBounds_toArray, List.set_cons_zero, List.set_cons_succ]
    refine wpAnyH_take (i := 3) (oi := ⟨some 95, _, _, _, _, _⟩) (v := ?_) rfl (by kernel_rfl) (by kernel_rfl) (by kernel_rfl) (fun _ _ _ h => h) (Or.inl ⟨by rfl, ?_⟩) (by assumption) ?_
    rotate_left
    · (intro w hSw; (try dsimp only at hSw); go_simp; try with_reducible rfl)
    simp only [Act.put, List.setIfInBounds_toArray, List.set_cons_zero, List.set_cons_succ]
    refine wpAnyH_take (i := 6) (oi := ⟨some 98, _, _, _, _, _⟩) (v := ?_) rfl (by kernel_rfl) (by kernel_rfl) (by kernel_rfl) (fun _ _ _ h => h) (Or.inl ⟨by rfl, ?_⟩) (by assumption) ?_
    rotate_left
    · (intro w hSw; (try dsimp only at hSw); go_simp; try with_reducible rfl)
    simp only [Act.put, List.setIfInBounds_toArray, List.set_cons_zero, List.set_cons_succ]
    refine wpAnyH_take (i := 7) (oi := ⟨some 99, _, _, _, _, _⟩) (v := ?_) rfl (by kernel_rfl) (by kernel_rfl) (by kernel_rfl) (fun _ _ _ h => h) (Or.inl ⟨by rfl, ?_⟩) (by assumption) ?_
    rotate_left
    · (intro w hSw; (try dsimp only at hSw); go_simp; try with_reducible rfl)
    simp only [Act.put, List.setIfInBounds_toArray, List.set_cons_zero, List.set_cons_succ]
    refine wpAnyH_take (i := 8) (oi := ⟨some 100, _, _, _, _, _⟩) (v := ?_) rfl (by kernel_rfl) (by kernel_rfl) (by kernel_rfl) (fun _ _ _ h => h) (Or.inl ⟨by rfl, ?_⟩) (by assumption) ?_
    rotate_left
    · (intro w hSw; (try dsimp only at hSw); go_simp; try with_reducible rfl)
    simp only [Act.put, List.setIfInBounds_toArray, List.set_cons_zero, List.set_cons_succ]
    refine wpAnyH_take (i := 9) (oi := ⟨some 101, _, _, _, _, _⟩) (v := ?_) rfl (by kernel_rfl) (by kernel_rfl) (by kernel_rfl) (fun _ _ _ h => h) (Or.inl ⟨by rfl, ?_⟩) (by assumption) ?_
    rotate_left
    · (intro w hSw; (try dsimp only at hSw); go_simp; try with_reducible rfl)
    simp only [Act.put, List.setIfInBounds_toArray, List.set_cons_zero, List.set_cons_succ]
    refine wpAnyH_ready (rs := [4]) (by kernel_rfl) (by simp) ?_
    refine AllReadyH.cons (o := ⟨some 96, _, _, _, _, _⟩) rfl (fun K hK => ?_) AllReadyH.nil
    go_simp
    go_at_call 29; refine (HC.out).mono ?_; rintro e w3 ⟨rfl, hb⟩; have HT3 := Lib.hid (HT.out.drew.below hb); have HB3 := Lib.hid (below_trans HB.out.drew hb); have n5 := cell_below_drew n5 hb; have c0 := cell_below_drew c0 hb; have c1 := cell_below_drew c1 hb; have c2 := cell_below_drew c2 hb; have c3 := cell_below_drew c3 hb; have c4 := cell_below_drew c4 hb; have c5 := cell_below_drew c5 hb; have d0 := cell_below_drew d0 hb; have d1 := cell_below_drew d1 hb; have d2 := cell_below_drew d2 hb; have d3 := cell_below_drew d3 hb; have d4 := cell_below_drew d4 hb; have d5 := cell_below_drew d5 hb; clear hb
    refine hK.out _ _ (by (try dsimp only); exact ⟨n5, c0, c1, c2, c3, c4, c5, d0, d1, d2, d3, d4, d5⟩) ?_
    clear hK K hHeld
    intro hHeld
    try simp only [Act.put, List.setIfInBounds_toArray, List.set_cons_zero, List.set_cons_succ]
    refine wpAnyH_take (i := 5) (oi := ⟨some 97, _, _, _, _, _⟩) (v := ?_) rfl (by kernel_rfl) (by kernel_rfl) (by kernel_rfl) (fun _ _ _ h => h) (Or.inl ⟨by rfl, ?_⟩) (by assumption) ?_
    rotate_left
    · (intro w hSw; (try dsimp only at hSw); go_simp; try with_reducible rfl)
    simp only [Act.put, List.setIfInBounds_toArray, List.set_cons_zero, List.set_cons_succ]
    refine wpAnyH_ready (rs := [10]) (by kernel_rfl) (by simp) ?_
    refine AllReadyH.cons (o := ⟨some 102, _, _, _, _, _⟩) rfl (fun K hK => ?_) AllReadyH.nil
    go_simp
    go_at_call 29; refine (HD.out _ _ _ HT3.out).mono ?_; rintro e w4 ⟨rfl, hb⟩; have HB4 := Lib.hid (below_trans HB3.out hb); have n5 := cell_below n5 hb; have c0 := cell_below c0 hb; have c1 := cell_below c1 hb; have c2 := cell_below c2 hb; have c3 := cell_below c3 hb; have c4 := cell_below c4 hb; have c5 := cell_below c5 hb; have d0 := cell_below d0 hb; have d1 := cell_below d1 hb; have d2 := cell_below d2 hb; have d3 := cell_below d3 hb; have d4 := cell_below d4 hb; have d5 := cell_below d5 hb; clear hb
    refine hK.out _ _ (by (try dsimp only); exact ⟨n5, c0, c1, c2, c3, c4, c5, d0, d1, d2, d3, d4, d5⟩) ?_
    clear hK K hHeld
    intro hHeld
    try simp only [Act.put, List.setIfInBounds_toArray, List.set_cons_zero, List.set_cons_succ]
    refine wpAnyH_take (i := 11) (oi := ⟨some 103, _, _, _, _, _⟩) (v := ?_) rfl (by kernel_rfl) (by kernel_rfl) (by kernel_rfl) (fun _ _ _ h => h) (Or.inl ⟨by rfl, ?_⟩) (by assumption) ?_
    rotate_left
    · (intro w hSw; (try dsimp only at hSw); go_simp; try with_reducible rfl)
    simp only [Act.put, List.setIfInBounds_toArray, List.set_cons_zero, List.set_cons_succ]
    refine wpAnyH_take (i := 12) (oi := ⟨some 2, _, _, _, _, _⟩) (v := ?_) rfl (by kernel_rfl) (by kernel_rfl) (by kernel_rfl) (fun _ _ _ h => h) (Or.inl ⟨by rfl, ?_⟩) (by assumption) ?_
    rotate_left
    · (intro w hSw; (try dsimp only at hSw); go_simp; try with_reducible rfl)
    simp only [Act.put, List.setIfInBounds_toArray, List.set_cons_zero, List.set_cons_succ]
    refine wpAnyH_done (by kernel_rfl) ?_ _
    go_wp2_with fail
    go_ret
    exact ⟨by rw [HV2.out, ← HA.out]; rfl, HB4.out⟩
  have HV2 := Lib.hid (show R = [] from by
    rw [HV.out]
    subst hlen
    match args, h6, h4, h5 with
    | [], _, _, _ => simp [printL, argsX]
    | [x], h6, _, _ => have : ¬ k = 6 := fun e => h6 ⟨e, rfl⟩; simp [printL, argsX, this]
    | [x, y], _, h4, h5 => have a1 : ¬ k = 4 := fun e => h4 ⟨e, rfl⟩; have a2 : ¬ k = 5 := fun e => h5 ⟨e, rfl⟩; simp [printL, argsX, a1, a2]
    | x :: y :: z :: l, _, _, _ => simp [printL, argsX])
  clear HHex HHexA HInt HReg HI HR HV hlen
  by_cases q6 : k = 6
  · have hl1 : ¬ ln = 1 := fun e => h6 ⟨q6, e⟩
    have hl2 : ¬ (ln : Int) = 1 := by omega
    have hl3 : ((ln : Int) == 1) = false := by rw [beq_eq_false_iff_ne]; exact hl2
    clear h6 h4 h5
    subst q6
    go_enter Try.func11, Try.ntmps11
    go_wp2_with fail
    go_ret
    exact ⟨by rw [HV2.out]; rfl, HB.out⟩
  have e6 : (k == 6) = false := by rw [beq_eq_false_iff_ne]; exact q6
  by_cases q4 : k = 4
  · have hl1 : ¬ ln = 2 := fun e => h4 ⟨q4, e⟩
    have hl2 : ¬ (ln : Int) = 2 := by omega
    have hl3 : ((ln : Int) == 2) = false := by rw [beq_eq_false_iff_ne]; exact hl2
    clear h6 h4 h5
    subst q4
    go_enter Try.func11, Try.ntmps11
    go_wp2_with fail
    go_ret
    exact ⟨by rw [HV2.out]; rfl, HB.out⟩
  have e4 : (k == 4) = false := by rw [beq_eq_false_iff_ne]; exact q4
  by_cases q5 : k = 5
  · have hl1 : ¬ ln = 2 := fun e => h5 ⟨q5, e⟩
    have hl2 : ¬ (ln : Int) = 2 := by omega
    have hl3 : ((ln : Int) == 2) = false := by rw [beq_eq_false_iff_ne]; exact hl2
    clear h6 h4 h5
    subst q5
    go_enter Try.func11, Try.ntmps11
    go_wp2_with fail
    go_ret
    exact ⟨by rw [HV2.out]; rfl, HB.out⟩
  have e5 : (k == 5) = false := by rw [beq_eq_false_iff_ne]; exact q5
  go_enter Try.func11, Try.ntmps11
  go_wp2_with fail
  go_ret
  exact ⟨by rw [HV2.out]; rfl, HB.out⟩
end Go.Proofs.Yteepoohcdmjmhaa
