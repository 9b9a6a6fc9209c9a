/- The reader of a text's parts: count, branch, place. -/
import Derived.Test.YtlhkjjfdmglabaaAsmRdr2
namespace Go.Proofs.Ytlhkjjfdmglabaa
open Go.RowKit
set_option linter.unusedVariables false
set_option linter.unusedSimpArgs false

theorem numberA_bd (s : AS) (x : List UInt8) : 0 ≤ (numberA s x).1 ∧ (numberA s x).1 ≤ 1099511627776 := by
  unfold numberA; split
  · rename_i h; simp only; omega
  · simp
set_option maxRecDepth 100000 in
set_option maxHeartbeats 1600000 in
theorem acount_any {r G : Nat} {s : AS} (w : World) (h : ARd w r G s) :
    Calls Try.prog 60 #[.pointer (some ⟨r, 0, none⟩)] w (SomeR r G w intV (countA s)) := by
  have HN := Lib.hid (anext_any w h)
  have hsz := nextA_size h
  have HM := Lib.hid (show countA s = numberA (badA (nextA s).2 (!(cutA [35] (nextA s).1).2)) (cutA [35] (nextA s).1).1 from rfl)
  generalize nextA s = y at *
  obtain ⟨x, s2⟩ := y
  obtain ⟨ws, bad⟩ := s2
  have HC := Lib.hid (fun (w1 : World) => cut_any x [35] w1)
  have hcl := cutA_len [35] x
  simp only at HM hsz
  generalize cutA [35] x = c at *
  obtain ⟨t, b⟩ := c
  simp only at HM hcl HC
  clear h
  go_enter Try.func60, Try.ntmps60
  go_wp2_with fail
  refine (HN.out).mono ?_
  rintro e w2 ⟨rfl, hr, hg⟩
  have HR := Lib.hid hr
  have HG := Lib.hid hg
  have hrl := hr.lt
  obtain ⟨p, cc, hB, _⟩ := hr
  have c0 := hB.cell 0
  have c1 := hB.cell 1
  have f0 := hB.free 0
  have f1 := hB.free 1
  simp only [List.getElem?_cons_zero, List.getElem?_cons_succ] at c0 c1
  clear hB
  clear hg HN
  go_wp2_with fail
  refine (HC.out _).mono ?_
  rintro e w3 ⟨rfl, rfl⟩
  have HB := Lib.hid (HR.out.bad (!b))
  have HNU := Lib.hid (fun w1 (hh : ARd w1 r G (badA (ws, bad) (!b))) => anumber_any w1 t (by omega) hh)
  cases bad <;> cases b
  all_goals
    go_wp2_with fail
    refine (HNU.out _ (by simpa [badA] using HB.out)).mono ?_
    rintro e w4 ⟨rfl, hr4, hg4⟩
    have HR4 := Lib.hid hr4
    have HG4 := Lib.hid (grown_thenR (grown_thenR HG.out (grown_setR _ _ _ _)) hg4)
    clear hr4 hg4
    go_wp2_with fail
    go_ret
    exact ⟨by rw [HM.out]; rfl, by rw [HM.out]; exact HR4.out, HG4.out⟩
set_option maxRecDepth 100000 in
set_option maxHeartbeats 1600000 in
theorem abranch_any {r G : Nat} {s : AS} (w : World) (h : ARd w r G s) :
    Calls Try.prog 48 #[.pointer (some ⟨r, 0, none⟩)] w (SomeR r G w intV (branchA s)) := by
  have HN := Lib.hid (anext_any w h)
  have hsz := nextA_size h
  have HM := Lib.hid (show branchA s = if (cutA [46, 43] (nextA s).1).2 then numberA (nextA s).2 (cutA [46, 43] (nextA s).1).1 else (-(numberA (badA (nextA s).2 (!(cutA [46, 45] (nextA s).1).2)) (cutA [46, 45] (nextA s).1).1).1, (numberA (badA (nextA s).2 (!(cutA [46, 45] (nextA s).1).2)) (cutA [46, 45] (nextA s).1).1).2) from rfl)
  generalize nextA s = y at *
  obtain ⟨x, s2⟩ := y
  obtain ⟨ws, bad⟩ := s2
  have HC := Lib.hid (fun (w1 : World) => cut_any x [46, 43] w1)
  have HC2 := Lib.hid (fun (w1 : World) => cut_any x [46, 45] w1)
  have hcl := cutA_len [46, 43] x
  have hcl2 := cutA_len [46, 45] x
  simp only at HM hsz
  generalize cutA [46, 43] x = c at *
  generalize cutA [46, 45] x = d at *
  obtain ⟨t, b⟩ := c
  obtain ⟨t2, b2⟩ := d
  simp only at HM hcl HC hcl2 HC2
  clear h
  go_enter Try.func48, Try.ntmps48
  go_wp2_with fail
  refine (HN.out).mono ?_
  rintro e w2 ⟨rfl, hr, hg⟩
  have HR := Lib.hid hr
  have HG := Lib.hid hg
  have hrl := hr.lt
  obtain ⟨p, cc, hB, _⟩ := hr
  have c0 := hB.cell 0
  have c1 := hB.cell 1
  have f0 := hB.free 0
  have f1 := hB.free 1
  simp only [List.getElem?_cons_zero, List.getElem?_cons_succ] at c0 c1
  clear hB
  clear hg HN
  go_wp2_with fail
  refine (HC.out _).mono ?_
  rintro e w3 ⟨rfl, rfl⟩
  cases b with
  | true =>
    have HNU := Lib.hid (fun w1 (hh : ARd w1 r G (ws, bad)) => anumber_any w1 t (by omega) hh)
    have HM2 := Lib.hid (show branchA s = numberA (ws, bad) t by rw [HM.out]; rfl)
    go_wp2_with fail
    refine (HNU.out _ HR.out).mono ?_
    rintro e w4 ⟨rfl, hr4, hg4⟩
    have HR4 := Lib.hid hr4
    have HG4 := Lib.hid (grown_thenR HG.out hg4)
    clear hr4 hg4
    go_wp2_with fail
    go_ret
    exact ⟨by rw [HM2.out]; rfl, by rw [HM2.out]; exact HR4.out, HG4.out⟩
  | false =>
    have HB := Lib.hid (HR.out.bad (!b2))
    have HNU := Lib.hid (fun w1 (hh : ARd w1 r G (badA (ws, bad) (!b2))) => anumber_any w1 t2 (by omega) hh)
    have HM2 := Lib.hid (show branchA s = (-(numberA (badA (ws, bad) (!b2)) t2).1, (numberA (badA (ws, bad) (!b2)) t2).2) by rw [HM.out]; rfl)
    obtain ⟨hb1, hb2⟩ := numberA_bd (badA (ws, bad) (!b2)) t2
    generalize numberA (badA (ws, bad) (!b2)) t2 = v at *
    obtain ⟨v, s4⟩ := v
    simp only at hb1 hb2 HM2
    have hneg : IntKind.i64.wrap (-v) = -v := IntWalk.i64_in _ (by omega)
    cases bad <;> cases b2
    all_goals
      go_wp2_with fail
      refine (HC2.out _).mono ?_
      rintro e w5 ⟨rfl, rfl⟩
      go_wp2_with fail
      refine (HNU.out _ (by simpa [badA] using HB.out)).mono ?_
      rintro e w4 ⟨rfl, hr4, hg4⟩
      have HR4 := Lib.hid hr4
      have HG4 := Lib.hid (grown_thenR (grown_thenR HG.out (grown_setR _ _ _ _)) hg4)
      clear hr4 hg4
      simp only [intV]
      go_wp2_with fail
      go_ret
      exact ⟨by rw [HM2.out]; rfl, by rw [HM2.out]; exact HR4.out, HG4.out⟩
set_option maxRecDepth 100000 in
set_option maxHeartbeats 1600000 in
theorem aplace_any {r G : Nat} {s : AS} (w : World) (h : ARd w r G s) :
    Calls Try.prog 59 #[.pointer (some ⟨r, 0, none⟩)] w (SomeR r G w (fun x : Int × Int => .tuple #[.int .i64 x.1, .int .i64 x.2]) (placeA s)) := by
  have HM := Lib.hid (show placeA s = if (mayA (regA (mustA s [91])).2 [44]).1 then (((regA (mustA s [91])).1, (countA (mayA (regA (mustA s [91])).2 [44]).2).1), mustA (countA (mayA (regA (mustA s [91])).2 [44]).2).2 [93]) else (((regA (mustA s [91])).1, 0), mustA (mayA (regA (mustA s [91])).2 [44]).2 [93]) from rfl)
  have H1 := Lib.hid (amust_any w [91] h)
  have H2 := Lib.hid (fun w1 (hh : ARd w1 r G (mustA s [91])) => areg_any w1 hh)
  have H3 := Lib.hid (fun w1 (hh : ARd w1 r G (regA (mustA s [91])).2) => amay_any w1 [44] hh)
  clear h
  generalize mustA s [91] = s1 at *
  generalize regA s1 = y at *
  obtain ⟨n, s2⟩ := y
  simp only at HM H3
  generalize mayA s2 [44] = m at *
  obtain ⟨b, s3⟩ := m
  simp only at HM
  go_enter Try.func59, Try.ntmps59
  go_wp2_with fail
  refine (H1.out).mono ?_
  rintro e w2 ⟨rfl, hr, hg⟩
  have HR := Lib.hid hr
  have HG := Lib.hid hg
  clear hr hg H1
  go_wp2_with fail
  refine (H2.out _ HR.out).mono ?_
  rintro e w3 ⟨rfl, hr, hg⟩
  have HR3 := Lib.hid hr
  have HG3 := Lib.hid (grown_thenR HG.out hg)
  clear hr hg H2 HR HG
  simp only [intV]
  go_wp2_with fail
  refine (H3.out _ HR3.out).mono ?_
  rintro e w4 ⟨rfl, hr, hg⟩
  have HR4 := Lib.hid hr
  have HG4 := Lib.hid (grown_thenR HG3.out hg)
  clear hr hg H3 HR3 HG3
  cases b with
  | true =>
    have HM2 := Lib.hid (show placeA s = ((n, (countA s3).1), mustA (countA s3).2 [93]) by rw [HM.out]; rfl)
    have H5 := Lib.hid (acount_any w4 HR4.out)
    have H6 := Lib.hid (fun w1 (hh : ARd w1 r G (countA s3).2) => amust_any w1 [93] hh)
    generalize countA s3 = y at *
    obtain ⟨k, s5⟩ := y
    simp only at HM2 H6
    go_wp2_with fail
    refine (H5.out).mono ?_
    rintro e w5 ⟨rfl, hr, hg⟩
    have HR5 := Lib.hid hr
    have HG5 := Lib.hid (grown_thenR HG4.out hg)
    clear hr hg H5 HR4 HG4
    simp only [intV]
    go_wp2_with fail
    refine (H6.out _ HR5.out).mono ?_
    rintro e w6 ⟨rfl, hr, hg⟩
    have HR6 := Lib.hid hr
    have HG6 := Lib.hid (grown_thenR HG5.out hg)
    clear hr hg H6 HR5 HG5
    go_wp2_with fail
    go_ret2
    exact ⟨by rw [HM2.out]; rfl, by rw [HM2.out]; exact HR6.out, HG6.out⟩
  | false =>
    have HM2 := Lib.hid (show placeA s = ((n, 0), mustA s3 [93]) by rw [HM.out]; rfl)
    have H6 := Lib.hid (amust_any w4 [93] HR4.out)
    go_wp2_with fail
    refine (H6.out).mono ?_
    rintro e w6 ⟨rfl, hr, hg⟩
    have HR6 := Lib.hid hr
    have HG6 := Lib.hid (grown_thenR HG4.out hg)
    clear hr hg H6 HG4
    go_wp2_with fail
    go_ret2
    exact ⟨by rw [HM2.out]; rfl, by rw [HM2.out]; exact HR6.out, HG6.out⟩
end Go.Proofs.Ytlhkjjfdmglabaa
