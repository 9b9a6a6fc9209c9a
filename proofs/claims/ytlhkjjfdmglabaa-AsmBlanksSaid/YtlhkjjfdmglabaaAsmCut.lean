/- strings.HasPrefix, strings.CutPrefix. -/
import Derived.Test.YtlhkjjfdmglabaaAsmMod
namespace Go.Proofs.Ytlhkjjfdmglabaa
open Go.RowKit
set_option linter.unusedVariables false
set_option linter.unusedSimpArgs false

theorem pre_eq (s p : ByteArray) (h : p.size ≤ s.size) : ((s.extract 0 p.size).toList == p.toList) = p.data.toList.isPrefixOf s.data.toList := by
  rw [toList_ba, toList_ba, Bool.eq_iff_iff, beq_iff_eq, List.isPrefixOf_iff_prefix, ByteArray.data_extract, Array.toList_extract]
  have hl : p.data.toList.length = p.size := by rw [← Lib.size_eq]
  simp only [List.extract, Nat.sub_zero, List.drop_zero]
  rw [← hl]
  exact ⟨fun e => by rw [← e]; exact List.take_prefix _ _, fun e => (List.prefix_iff_eq_take.1 e).symm⟩
theorem pre_short (s p : ByteArray) (h : ¬ p.size ≤ s.size) : p.data.toList.isPrefixOf s.data.toList = false := by
  cases hh : p.data.toList.isPrefixOf s.data.toList with
  | false => rfl
  | true =>
    have := (List.isPrefixOf_iff_prefix.1 hh).length_le
    rw [← Lib.size_eq, ← Lib.size_eq] at this
    exact absurd this h
theorem slp_any (s p : ByteArray) (w : World) :
    Calls Try.prog 69 #[.string s, .string p] w fun e w' => e = .returned (.bool (p.data.toList.isPrefixOf s.data.toList)) ∧ w = w' := by
  by_cases h : p.size ≤ s.size
  · have he := pre_eq s p h
    have hle : (p.size : Int) ≤ s.size := by omega
    generalize p.data.toList.isPrefixOf s.data.toList = b at *
    go_enter Try.func69, Try.ntmps69
    go_wp2_with fail
    go_ret
    exact ⟨rfl, rfl⟩
  · have he := pre_short s p h
    have hle : ¬ (p.size : Int) ≤ s.size := by omega
    generalize p.data.toList.isPrefixOf s.data.toList = b at *
    subst he
    go_enter Try.func69, Try.ntmps69
    go_wp2_with fail
    go_ret
    exact ⟨rfl, rfl⟩
theorem hasp_any (s p : ByteArray) (w : World) :
    Calls Try.prog 62 #[.string s, .string p] w fun e w' => e = .returned (.bool (p.data.toList.isPrefixOf s.data.toList)) ∧ w = w' := by
  have HS := Lib.hid (fun w1 => slp_any s p w1)
  generalize p.data.toList.isPrefixOf s.data.toList = b at *
  go_enter Try.func62, Try.ntmps62
  go_wp2_with fail
  refine (HS.out _).mono ?_
  rintro e w' ⟨rfl, rfl⟩
  go_wp2_with fail
  go_ret
  exact ⟨rfl, rfl⟩
theorem cutA_eq (s p : ByteArray) : (p.data.toList.isPrefixOf s.data.toList = true → cutA p.data.toList s.data.toList = ((s.extract p.size s.size).data.toList, true) ∧ p.size ≤ s.size) ∧ (p.data.toList.isPrefixOf s.data.toList = false → cutA p.data.toList s.data.toList = (s.data.toList, false)) := by
  have hl : p.data.toList.length = p.size := by rw [← Lib.size_eq]
  have hl2 : s.data.toList.length = s.size := by rw [← Lib.size_eq]
  refine ⟨fun h => ⟨?_, ?_⟩, fun h => by unfold cutA; rw [h]; rfl⟩
  · unfold cutA
    rw [if_pos h, hl, ByteArray.data_extract, Array.toList_extract]
    simp only [List.extract, List.take_drop]
    rw [List.take_of_length_le (by omega)]
  · have := (List.isPrefixOf_iff_prefix.1 h).length_le
    omega
theorem cut_ba (s p : ByteArray) (w : World) :
    Calls Try.prog 70 #[.string s, .string p] w fun e w' => e = .returned (.tuple #[.string (ba (cutA p.data.toList s.data.toList).1), .bool (cutA p.data.toList s.data.toList).2]) ∧ w = w' := by
  have HS := Lib.hid (fun w1 => slp_any s p w1)
  obtain ⟨h1, h2⟩ := cutA_eq s p
  cases hb : p.data.toList.isPrefixOf s.data.toList with
  | true =>
    rw [hb] at HS
    obtain ⟨h3, h4⟩ := h1 hb
    have HC := Lib.hid h3
    have hle : (p.size : Int) ≤ s.size := by omega
    clear h1 h2 hb h3
    go_enter Try.func70, Try.ntmps70
    go_wp2_with fail
    refine (HS.out _).mono ?_
    rintro e w' ⟨rfl, rfl⟩
    go_wp2_with fail
    go_ret2
    exact ⟨by rw [HC.out]; rfl, rfl⟩
  | false =>
    rw [hb] at HS
    have HC := Lib.hid (h2 hb)
    clear h1 h2 hb
    go_enter Try.func70, Try.ntmps70
    go_wp2_with fail
    refine (HS.out _).mono ?_
    rintro e w' ⟨rfl, rfl⟩
    go_wp2_with fail
    go_ret2
    exact ⟨by rw [HC.out]; rfl, rfl⟩
theorem cut_any (x p : List UInt8) (w : World) :
    Calls Try.prog 63 #[.string (ba x), .string (ba p)] w fun e w' => e = .returned (.tuple #[.string (ba (cutA p x).1), .bool (cutA p x).2]) ∧ w = w' := by
  have HS := Lib.hid (fun w1 => cut_ba (ba x) (ba p) w1)
  simp only [ba_data] at HS
  generalize cutA p x = c at *
  obtain ⟨c1, c2⟩ := c
  go_enter Try.func63, Try.ntmps63
  go_wp2_with fail
  refine (HS.out _).mono ?_
  rintro e w' ⟨rfl, rfl⟩
  go_wp2_with fail
  go_ret2
  exact ⟨rfl, rfl⟩
end Go.Proofs.Ytlhkjjfdmglabaa
