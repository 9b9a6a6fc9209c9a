/- The reader of a text's parts: may, number, reg, count, branch, place. -/
import Derived.Test.YtlhkjjfdmglabaaAsmRdr
import Derived.Test.YtlhkjjfdmglabaaAsmCut
namespace Go.Proofs.Ytlhkjjfdmglabaa
open Go.RowKit
set_option linter.unusedVariables false
set_option linter.unusedSimpArgs false

def intV (n : Int) : Value := .int .i64 n
def boolV (b : Bool) : Value := .bool b
theorem ba_ne {x t : List UInt8} (h : ¬ x = t) : ((ba x).toList == (ba t).toList) = false := toList_ne (fun e => h (by have := congrArg (fun b => b.data.toList) e; simpa [ba_data] using this))
theorem nextA_size {r G : Nat} {s : AS} {w : World} (h : ARd w r G s) : (nextA s).1.length ≤ 1100000 := by
  obtain ⟨p, c, _, _, _, _, _, hq, _⟩ := h
  obtain ⟨ws, b⟩ := s
  cases ws with
  | nil => simp [nextA]
  | cons x ws => exact hq x (by simp)
theorem cutA_len (p x : List UInt8) : (cutA p x).1.length ≤ x.length := by unfold cutA; split <;> simp
theorem ARd.bad {w : World} {r G : Nat} {s : AS} (h : ARd w r G s) (b : Bool) : ARd (w.setCell ⟨r, 1, none⟩ (.bool (s.2 || b))) r G (badA s b) := h.set1 _
set_option maxRecDepth 100000 in
set_option maxHeartbeats 1600000 in
theorem amay_any {r G : Nat} {s : AS} (w : World) (t : List UInt8) (h : ARd w r G s) :
    Calls Try.prog 61 #[.pointer (some ⟨r, 0, none⟩), .string (ba t)] w (SomeR r G w boolV (mayA s t)) := by
  have HR := Lib.hid h
  obtain ⟨ws, bad⟩ := s
  obtain ⟨p, c, hB, hRd, hlc, hcm, hne, hq, hqG, hGw⟩ := h
  have c0 := hB.cell 0
  have c1 := hB.cell 1
  have f0 := hB.free 0
  have f1 := hB.free 1
  simp only [List.getElem?_cons_zero, List.getElem?_cons_succ] at c0 c1
  cases ws with
  | nil =>
    clear hB hRd hne hq hqG hGw
    simp only [List.length_nil] at c0
    go_enter Try.func61, Try.ntmps61
    go_wp2_with fail
    go_ret
    exact ⟨rfl, HR.out, grown_below (Below.refl _ _)⟩
  | cons x ws =>
    obtain ⟨g, off, u, rfl, hu, hc⟩ := hRd.at_ (j := 0) (by simp)
    obtain rfl : u = .string (ba x) := by simpa [strV] using hu.symm
    rw [Nat.add_zero] at hc
    simp only [List.length_cons] at c0 hlc
    clear hu
    have hgr : g ≠ r := hne _ rfl
    unfold maxLen at hcm
    have hn1 : ((ws.length : Int) + 1 == 0) = false := beq_eq_false_iff_ne.2 (by omega)
    by_cases hx : x = t
    · have HM := Lib.hid (show mayA (x :: ws, bad) t = (true, (ws, bad)) by simp [mayA, hx])
      subst hx
      by_cases h1 : c = 1
      · subst h1
        obtain rfl : ws = [] := List.eq_nil_of_length_eq_zero (by omega)
        have HX := Lib.hid (ard_tail (o' := off) (c' := 0) hB hRd hgr (by simp) (by simp) (by unfold maxLen; omega) hq (hqG _ rfl) hGw)
        clear hB hRd hne hq hqG hGw
        simp only [List.length_nil] at c0 hlc
        go_enter Try.func61, Try.ntmps61
        go_wp2_with fail
        go_ret
        exact ⟨by rw [HM.out]; rfl, by rw [HM.out]; exact HX.out, grown_setR _ _ _ _⟩
      · have HX := Lib.hid (ard_tail (o' := off + 1) (c' := c - 1) hB hRd hgr (by simp) (by omega) (by unfold maxLen; omega) hq (hqG _ rfl) hGw)
        clear hB hRd hne hq hqG hGw
        go_enter Try.func61, Try.ntmps61
        go_wp2_with fail
        go_ret
        exact ⟨by rw [HM.out]; rfl, by rw [HM.out]; exact HX.out, grown_setR _ _ _ _⟩
    · have HM := Lib.hid (show mayA (x :: ws, bad) t = (false, (x :: ws, bad)) by simp [mayA, hx])
      have hxb := ba_ne hx
      clear hB hRd hne hq hqG hGw hx
      go_enter Try.func61, Try.ntmps61
      go_wp2_with fail
      go_ret
      exact ⟨by rw [HM.out]; rfl, by rw [HM.out]; exact HR.out, grown_below (Below.refl _ _)⟩
set_option maxRecDepth 100000 in
set_option maxHeartbeats 1600000 in
theorem anumber_any {r G : Nat} {s : AS} (w : World) (x : List UInt8) (hx : x.length ≤ 1100000) (h : ARd w r G s) :
    Calls Try.prog 64 #[.pointer (some ⟨r, 0, none⟩), .string (ba x)] w (SomeR r G w intV (numberA s x)) := by
  have HR := Lib.hid h
  have HP := Lib.hid (fun (w1 : World) => parse_any (ba x) w1 (by unfold maxLen; rw [ba_size]; omega))
  rw [ba_data] at HP
  have HM := Lib.hid (show numberA s x = if (parseL x).2 = 0 ∧ (parseL x).1 ≤ 1099511627776 then ((((parseL x).1 : Nat) : Int), s) else (0, badA s true) from rfl)
  generalize parseL x = v at *
  obtain ⟨v, e0⟩ := v
  have hrl := h.lt
  obtain ⟨p, cc, hB, _⟩ := h
  have c0 := hB.cell 0
  have c1 := hB.cell 1
  have f0 := hB.free 0
  have f1 := hB.free 1
  simp only [List.getElem?_cons_zero, List.getElem?_cons_succ] at c0 c1
  clear hB
  by_cases h0 : e0 = 0
  · subst h0
    by_cases hv : v ≤ 1099511627776
    · have hvi : ¬ (1099511627776 : Int) < v := by omega
      have HM2 := Lib.hid (show numberA s x = (((v : Nat) : Int), s) by rw [HM.out]; simp [hv])
      have hvw : IntKind.i64.wrap (v : Int) = v := IntWalk.i64_in _ (by omega)
      go_enter Try.func64, Try.ntmps64
      go_wp2_with fail
      refine (HP.out _).mono ?_
      rintro e w2 ⟨rfl, k, rfl⟩
      go_wp2_with fail
      go_ret
      exact ⟨by rw [HM2.out]; rfl, by rw [HM2.out]; exact HR.out.dn _, grown_below (below_drewN (Below.refl _ _) _)⟩
    · have hvi : (1099511627776 : Int) < v := by omega
      have HM2 := Lib.hid (show numberA s x = (0, badA s true) by rw [HM.out]; simp [hv])
      go_enter Try.func64, Try.ntmps64
      go_wp2_with fail
      refine (HP.out _).mono ?_
      rintro e w2 ⟨rfl, k, rfl⟩
      go_wp2_with fail
      go_ret
      refine ⟨by rw [HM2.out]; rfl, ?_, grown_thenR (grown_below (below_drewN (Below.refl _ _) _)) (grown_setR _ _ _ _)⟩
      rw [HM2.out]
      simpa [badA] using (HR.out.dn k).bad true
  · have h0b : ((e0 : Int) != 0) = true := bne_iff_ne.2 (by omega)
    have HM2 := Lib.hid (show numberA s x = (0, badA s true) by rw [HM.out]; simp [h0])
    clear h0
    go_enter Try.func64, Try.ntmps64
    go_wp2_with fail
    refine (HP.out _).mono ?_
    rintro e w2 ⟨rfl, k, rfl⟩
    go_wp2_with fail
    go_ret
    refine ⟨by rw [HM2.out]; rfl, ?_, grown_thenR (grown_below (below_drewN (Below.refl _ _) _)) (grown_setR _ _ _ _)⟩
    rw [HM2.out]
    simpa [badA] using (HR.out.dn k).bad true
set_option maxRecDepth 100000 in
set_option maxHeartbeats 1600000 in
theorem areg_any {r G : Nat} {s : AS} (w : World) (h : ARd w r G s) :
    Calls Try.prog 46 #[.pointer (some ⟨r, 0, none⟩)] w (SomeR r G w intV (regA s)) := by
  have HN := Lib.hid (anext_any w h)
  have HM := Lib.hid (show regA s = match regN (ba (nextA s).1) with | some j => (((j : Nat) : Int), (nextA s).2) | none => (0, badA (nextA s).2 true) from rfl)
  generalize nextA s = y at *
  obtain ⟨x, s2⟩ := y
  obtain ⟨ws, bad⟩ := s2
  have HP := Lib.hid (fun (w1 : World) => numberOf_any (ba x) w1)
  cases hx : regN (ba x) with
  | some j =>
    rw [hx] at HP
    have HM2 := Lib.hid (show regA s = (((j : Nat) : Int), (ws, bad)) by rw [HM.out]; simp [hx])
    clear hx h
    go_enter Try.func46, Try.ntmps46
    go_wp2_with fail
    refine (HN.out).mono ?_
    rintro e w2 ⟨rfl, hr, hg⟩
    have HR := Lib.hid hr
    have HG := Lib.hid hg
    have hrl := hr.lt
    obtain ⟨p, cc, hB, _⟩ := hr
    have c0 := hB.cell 0
    have c1 := hB.cell 1
    have f0 := hB.free 0
    have f1 := hB.free 1
    simp only [List.getElem?_cons_zero, List.getElem?_cons_succ] at c0 c1
    clear hB
    clear hg HN
    go_wp2_with fail
    refine (HP.out _).mono ?_
    rintro e w3 ⟨rfl, k, rfl⟩
    simp only [regNV]
    have HB := Lib.hid ((HR.out.dn k).bad false)
    cases bad
    all_goals
      go_wp2_with fail
      go_ret
      refine ⟨by rw [HM2.out]; rfl, by rw [HM2.out]; simpa [badA] using HB.out, grown_thenR (grown_thenR HG.out (grown_below (below_drewN (Below.refl _ _) _))) (grown_setR _ _ _ _)⟩
  | none =>
    rw [hx] at HP
    have HM2 := Lib.hid (show regA s = (0, badA (ws, bad) true) by rw [HM.out]; simp [hx])
    clear hx h
    go_enter Try.func46, Try.ntmps46
    go_wp2_with fail
    refine (HN.out).mono ?_
    rintro e w2 ⟨rfl, hr, hg⟩
    have HR := Lib.hid hr
    have HG := Lib.hid hg
    have hrl := hr.lt
    obtain ⟨p, cc, hB, _⟩ := hr
    have c0 := hB.cell 0
    have c1 := hB.cell 1
    have f0 := hB.free 0
    have f1 := hB.free 1
    simp only [List.getElem?_cons_zero, List.getElem?_cons_succ] at c0 c1
    clear hB
    clear hg HN
    go_wp2_with fail
    refine (HP.out _).mono ?_
    rintro e w3 ⟨rfl, k, rfl⟩
    simp only [regNV]
    have HB := Lib.hid ((HR.out.dn k).bad true)
    cases bad
    all_goals
      go_wp2_with fail
      go_ret
      refine ⟨by rw [HM2.out]; rfl, by rw [HM2.out]; simpa [badA] using HB.out, grown_thenR (grown_thenR HG.out (grown_below (below_drewN (Below.refl _ _) _))) (grown_setR _ _ _ _)⟩
end Go.Proofs.Ytlhkjjfdmglabaa
