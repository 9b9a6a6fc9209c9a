/- Contracts of value and Parse of the package granuleref02. -/
import Derived.Test.YtpfeeoogjeobdaaRows
import Derived.Test.YtpfeeoogjeobdaaBase
import Derived.Test.YtpfeeoogjeobdaaParsePlain
namespace Go.Proofs.Ytpfeeoogjeobdaa
open Go.RowKit

theorem value_any (c : Int) (w : World) (hc : 0 ≤ c ∧ c ≤ 255) :
    Calls Try.prog 28 #[.int .u8 c] w fun e w' => e = .returned (.int .i64 (digN c.toNat)) ∧ w = w' := by
  obtain ⟨n, rfl⟩ := Int.eq_ofNat_of_zero_le hc.1
  have H : Hid (digN n = if 48 ≤ n ∧ n ≤ 57 then n - 48 else if 97 ≤ n ∧ n ≤ 102 then n - 97 + 10 else if 65 ≤ n ∧ n ≤ 70 then n - 65 + 10 else 99) := rfl
  rw [Int.toNat_natCast]
  by_cases h1 : 48 ≤ n <;> by_cases h2 : n ≤ 57 <;> by_cases h3 : 97 ≤ n <;> by_cases h4 : n ≤ 102 <;> by_cases h5 : 65 ≤ n <;> by_cases h6 : n ≤ 70 <;> first
    | (exfalso; omega)
    | (go_enter Try.func28, Try.ntmps28
       go_wp2
       go_ret
       refine ⟨ret_int ?_, rfl⟩
       rw [H.out]
       simp [h1, h2, h3, h4, h5, h6]
       try omega)

def Halves (h l n : Nat) : Prop := n = h * 4294967296 + l

set_option maxRecDepth 100000 in
theorem rparse_hex (s : ByteArray) (w : World) (hs : s.size ≤ maxLen) (hh : hexed s.data.toList = true) :
    Calls Try.prog 24 #[.string s] w fun e w' => e = .returned (.tuple #[.int .u64 (parseL s.data.toList).1, .int .i64 (parseL s.data.toList).2]) ∧ ∃ m, w' = w.drewN m := by
  unfold maxLen at hs
  have HT0 : Hid (parseL s.data.toList = parseT 16 (s.data.toList.drop 2)) := by
    show _ = _; unfold parseL; rw [if_pos hh]
  obtain ⟨h2, a0, a1, a2, a3, a4, a5, a6⟩ := hexed_facts s hh
  have hx := (hexed_eq s h2).trans hh
  have hz : (((s.size - 2 : Nat) : Int) == 0) = false := by rw [beq_eq_false_iff_ne]; omega
  have HA5 := Lib.hid a5
  have HZ := Lib.hid a6
  clear hh a5 a6 a0 a1 a2
  go_enter Try.func24, Try.ntmps24
  go_wp2_with fail
  generalize s.extract 2 s.size = t at *
  rw [HZ.out]
  have HT : Hid (parseL s.data.toList = parseT 16 t.data.toList) := by
    show _ = _; rw [HA5.out]; exact HT0.out
  have h0 := a3

  go_loop [5] (fun i => ∃ k : Nat, k ≤ t.size ∧ i = .int .i64 k ∧ goodTo 16 t.data.toList k = true) (fun i => t.size - (intOf i).toNat)
  case atStart => exact ⟨0, Nat.zero_le _, rfl, goodTo_zero _ _⟩
  case round =>
    obtain ⟨k, hk, rfl, hg⟩ := hrel
    have HG := Lib.hid hg
    clear hg
    by_cases hlt : k < t.size
    · have h255 := UInt8.toNat_lt t[k]
      by_cases hd : digN t[k].toNat < 16
      · go_wp2_with (go_at_call 28; refine (value_any _ _ (by omega)).mono ?_; rintro e w' ⟨rfl, rfl⟩)
        go_round
        case rel => exact ⟨k + 1, by omega, by go_num, goodTo_next _ t k hlt HG.out hd⟩
        case measure => simp [intOf]; omega
      · have HB := Lib.hid (bad_any _ t k hlt hd)
        go_wp2_with (go_at_call 28; refine (value_any _ _ (by omega)).mono ?_; rintro e w' ⟨rfl, rfl⟩)
        go_ret2
        exact ⟨by rw [HT.out, HB.out]; rfl, 0, rfl⟩
    · obtain rfl : k = t.size := by omega
      have HA := Lib.hid (goodTo_all _ t HG.out)
      clear hlt hk HG
      go_wp2_with fail
      go_loop [8, 6, 7] (fun i hi lo => ∃ k h l : Nat, k ≤ t.size ∧ i = .int .i64 k ∧ h < 4294967296 ∧ l < 4294967296 ∧ Halves h l (foldB 16 (t.data.toList.take k)) ∧ hi = .int .u64 h ∧ lo = .int .u64 l) (fun i _ _ => t.size - (intOf i).toNat)
      case atStart => exact ⟨0, 0, 0, Nat.zero_le _, rfl, by decide, by decide, rfl, rfl, rfl⟩
      case round =>
        obtain ⟨k, h, l, hk, rfl, hh, hl, hf, rfl, rfl⟩ := hrel
        have HF0 := Lib.hid hf
        clear hf
        by_cases hlt : k < t.size
        · have h255 := UInt8.toNat_lt t[k]
          have hd := good_at _ t k hlt HA.out
          have HF := Lib.hid (foldB_take 16 t k hlt)
          have HB := Lib.hid (parse_big 16 (by decide) t k hlt HA.out)
          by_cases hbig : decide (4294967296 ≤ (h : Int) * 16 + ((l : Int) * 16 + (digN t[k].toNat : Int)) / 4294967296) = true
          · have hbig' : 4294967296 ≤ (h : Int) * 16 + ((l : Int) * 16 + (digN t[k].toNat : Int)) / 4294967296 := of_decide_eq_true hbig
            have HBIG := Lib.hid hbig'
            clear hbig'
            go_wp2_with (go_at_call 28; refine (value_any _ _ (by omega)).mono ?_; rintro e w' ⟨rfl, rfl⟩)
            go_ret2
            exact ⟨by rw [HT.out, HB.out (by rw [HF.out]; have q1 := HF0.out; have q2 := HBIG.out; unfold Halves at q1; omega)]; rfl, 0, rfl⟩
          · have hok : ¬ 4294967296 ≤ (h : Int) * 16 + ((l : Int) * 16 + (digN t[k].toNat : Int)) / 4294967296 := fun e => hbig (decide_eq_true e)
            have HOK := Lib.hid hok
            have hbig2 : decide (4294967296 ≤ (h : Int) * 16 + ((l : Int) * 16 + (digN t[k].toNat : Int)) / 4294967296) = false := decide_eq_false hok
            clear hbig hok
            go_wp2_with (go_at_call 28; refine (value_any _ _ (by omega)).mono ?_; rintro e w' ⟨rfl, rfl⟩)
            go_round
            case rel =>
              have hok := HOK.out
              refine ⟨k + 1, h * 16 + (l * 16 + digN t[k].toNat) / 4294967296, (l * 16 + digN t[k].toNat) % 4294967296, by omega, by go_num, by omega, by omega, ?_, by go_num, by go_num⟩
              have e1 := HF.out
              have e2 := HF0.out
              unfold Halves at *
              rw [e1, e2]; omega
            case measure => simp [intOf]; omega
        · obtain rfl : k = t.size := by omega
          have hlt64 : foldB 16 (t.data.toList.take t.size) < 18446744073709551616 := by have := HF0.out; unfold Halves at this; omega
          have HP := Lib.hid (parse_ok _ t h0 HA.out hlt64)
          clear hlt hk hlt64
          go_wp2
          go_ret2
          refine ⟨?_, 0, rfl⟩
          have e : ((foldB 16 (t.data.toList.take t.size) : Nat) : Int) = (h : Int) * 4294967296 + (l : Int) := by have := HF0.out; unfold Halves at this; omega
          rw [HT.out, HP.out]
          exact ret_val (congrArg (fun z => Value.tuple #[.int .u64 z, .int .i64 0]) e.symm)

set_option maxRecDepth 100000 in
theorem rparse_ten1 (t : ByteArray) (w : World) (hs : t.size ≤ maxLen) (hh : hexed t.data.toList = false) (h0 : 0 < t.size) (h2 : 2 < t.size) (c0 : ((t.extract 0 2).toList == [48, 120]) = false) :
    Calls Try.prog 24 #[.string t] w fun e w' => e = .returned (.tuple #[.int .u64 (parseL t.data.toList).1, .int .i64 (parseL t.data.toList).2]) ∧ ∃ m, w' = w.drewN m := by
  unfold maxLen at hs
  have HT : Hid (parseL t.data.toList = parseT 10 t.data.toList) := by
    show _ = _; unfold parseL; rw [hh]; rfl
  have he : ((t.size : Int) == 0) = false := by rw [beq_eq_false_iff_ne]; omega
  clear hh
  go_enter Try.func24, Try.ntmps24
  go_wp2_with fail

  go_loop [5] (fun i => ∃ k : Nat, k ≤ t.size ∧ i = .int .i64 k ∧ goodTo 10 t.data.toList k = true) (fun i => t.size - (intOf i).toNat)
  case atStart => exact ⟨0, Nat.zero_le _, rfl, goodTo_zero _ _⟩
  case round =>
    obtain ⟨k, hk, rfl, hg⟩ := hrel
    have HG := Lib.hid hg
    clear hg
    by_cases hlt : k < t.size
    · have h255 := UInt8.toNat_lt t[k]
      by_cases hd : digN t[k].toNat < 10
      · go_wp2_with (go_at_call 28; refine (value_any _ _ (by omega)).mono ?_; rintro e w' ⟨rfl, rfl⟩)
        go_round
        case rel => exact ⟨k + 1, by omega, by go_num, goodTo_next _ t k hlt HG.out hd⟩
        case measure => simp [intOf]; omega
      · have HB := Lib.hid (bad_any _ t k hlt hd)
        go_wp2_with (go_at_call 28; refine (value_any _ _ (by omega)).mono ?_; rintro e w' ⟨rfl, rfl⟩)
        go_ret2
        exact ⟨by rw [HT.out, HB.out]; rfl, 0, rfl⟩
    · obtain rfl : k = t.size := by omega
      have HA := Lib.hid (goodTo_all _ t HG.out)
      clear hlt hk HG
      go_wp2_with fail
      go_loop [8, 6, 7] (fun i hi lo => ∃ k h l : Nat, k ≤ t.size ∧ i = .int .i64 k ∧ h < 4294967296 ∧ l < 4294967296 ∧ Halves h l (foldB 10 (t.data.toList.take k)) ∧ hi = .int .u64 h ∧ lo = .int .u64 l) (fun i _ _ => t.size - (intOf i).toNat)
      case atStart => exact ⟨0, 0, 0, Nat.zero_le _, rfl, by decide, by decide, rfl, rfl, rfl⟩
      case round =>
        obtain ⟨k, h, l, hk, rfl, hh, hl, hf, rfl, rfl⟩ := hrel
        have HF0 := Lib.hid hf
        clear hf
        by_cases hlt : k < t.size
        · have h255 := UInt8.toNat_lt t[k]
          have hd := good_at _ t k hlt HA.out
          have HF := Lib.hid (foldB_take 10 t k hlt)
          have HB := Lib.hid (parse_big 10 (by decide) t k hlt HA.out)
          by_cases hbig : decide (4294967296 ≤ (h : Int) * 10 + ((l : Int) * 10 + (digN t[k].toNat : Int)) / 4294967296) = true
          · have hbig' : 4294967296 ≤ (h : Int) * 10 + ((l : Int) * 10 + (digN t[k].toNat : Int)) / 4294967296 := of_decide_eq_true hbig
            have HBIG := Lib.hid hbig'
            clear hbig'
            go_wp2_with (go_at_call 28; refine (value_any _ _ (by omega)).mono ?_; rintro e w' ⟨rfl, rfl⟩)
            go_ret2
            exact ⟨by rw [HT.out, HB.out (by rw [HF.out]; have q1 := HF0.out; have q2 := HBIG.out; unfold Halves at q1; omega)]; rfl, 0, rfl⟩
          · have hok : ¬ 4294967296 ≤ (h : Int) * 10 + ((l : Int) * 10 + (digN t[k].toNat : Int)) / 4294967296 := fun e => hbig (decide_eq_true e)
            have HOK := Lib.hid hok
            have hbig2 : decide (4294967296 ≤ (h : Int) * 10 + ((l : Int) * 10 + (digN t[k].toNat : Int)) / 4294967296) = false := decide_eq_false hok
            clear hbig hok
            go_wp2_with (go_at_call 28; refine (value_any _ _ (by omega)).mono ?_; rintro e w' ⟨rfl, rfl⟩)
            go_round
            case rel =>
              have hok := HOK.out
              refine ⟨k + 1, h * 10 + (l * 10 + digN t[k].toNat) / 4294967296, (l * 10 + digN t[k].toNat) % 4294967296, by omega, by go_num, by omega, by omega, ?_, by go_num, by go_num⟩
              have e1 := HF.out
              have e2 := HF0.out
              unfold Halves at *
              rw [e1, e2]; omega
            case measure => simp [intOf]; omega
        · obtain rfl : k = t.size := by omega
          have hlt64 : foldB 10 (t.data.toList.take t.size) < 18446744073709551616 := by have := HF0.out; unfold Halves at this; omega
          have HP := Lib.hid (parse_ok _ t h0 HA.out hlt64)
          clear hlt hk hlt64
          go_wp2
          go_ret2
          refine ⟨?_, 0, rfl⟩
          have e : ((foldB 10 (t.data.toList.take t.size) : Nat) : Int) = (h : Int) * 4294967296 + (l : Int) := by have := HF0.out; unfold Halves at this; omega
          rw [HT.out, HP.out]
          exact ret_val (congrArg (fun z => Value.tuple #[.int .u64 z, .int .i64 0]) e.symm)

set_option maxRecDepth 100000 in
theorem rparse_ten3 (t : ByteArray) (w : World) (hs : t.size ≤ maxLen) (hh : hexed t.data.toList = false) (h0 : 0 < t.size) (h2 : ¬ 2 < t.size) :
    Calls Try.prog 24 #[.string t] w fun e w' => e = .returned (.tuple #[.int .u64 (parseL t.data.toList).1, .int .i64 (parseL t.data.toList).2]) ∧ ∃ m, w' = w.drewN m := by
  unfold maxLen at hs
  have HT : Hid (parseL t.data.toList = parseT 10 t.data.toList) := by
    show _ = _; unfold parseL; rw [hh]; rfl
  have he : ((t.size : Int) == 0) = false := by rw [beq_eq_false_iff_ne]; omega
  clear hh
  go_enter Try.func24, Try.ntmps24
  go_wp2_with fail

  go_loop [5] (fun i => ∃ k : Nat, k ≤ t.size ∧ i = .int .i64 k ∧ goodTo 10 t.data.toList k = true) (fun i => t.size - (intOf i).toNat)
  case atStart => exact ⟨0, Nat.zero_le _, rfl, goodTo_zero _ _⟩
  case round =>
    obtain ⟨k, hk, rfl, hg⟩ := hrel
    have HG := Lib.hid hg
    clear hg
    by_cases hlt : k < t.size
    · have h255 := UInt8.toNat_lt t[k]
      by_cases hd : digN t[k].toNat < 10
      · go_wp2_with (go_at_call 28; refine (value_any _ _ (by omega)).mono ?_; rintro e w' ⟨rfl, rfl⟩)
        go_round
        case rel => exact ⟨k + 1, by omega, by go_num, goodTo_next _ t k hlt HG.out hd⟩
        case measure => simp [intOf]; omega
      · have HB := Lib.hid (bad_any _ t k hlt hd)
        go_wp2_with (go_at_call 28; refine (value_any _ _ (by omega)).mono ?_; rintro e w' ⟨rfl, rfl⟩)
        go_ret2
        exact ⟨by rw [HT.out, HB.out]; rfl, 0, rfl⟩
    · obtain rfl : k = t.size := by omega
      have HA := Lib.hid (goodTo_all _ t HG.out)
      clear hlt hk HG
      go_wp2_with fail
      go_loop [8, 6, 7] (fun i hi lo => ∃ k h l : Nat, k ≤ t.size ∧ i = .int .i64 k ∧ h < 4294967296 ∧ l < 4294967296 ∧ Halves h l (foldB 10 (t.data.toList.take k)) ∧ hi = .int .u64 h ∧ lo = .int .u64 l) (fun i _ _ => t.size - (intOf i).toNat)
      case atStart => exact ⟨0, 0, 0, Nat.zero_le _, rfl, by decide, by decide, rfl, rfl, rfl⟩
      case round =>
        obtain ⟨k, h, l, hk, rfl, hh, hl, hf, rfl, rfl⟩ := hrel
        have HF0 := Lib.hid hf
        clear hf
        by_cases hlt : k < t.size
        · have h255 := UInt8.toNat_lt t[k]
          have hd := good_at _ t k hlt HA.out
          have HF := Lib.hid (foldB_take 10 t k hlt)
          have HB := Lib.hid (parse_big 10 (by decide) t k hlt HA.out)
          by_cases hbig : decide (4294967296 ≤ (h : Int) * 10 + ((l : Int) * 10 + (digN t[k].toNat : Int)) / 4294967296) = true
          · have hbig' : 4294967296 ≤ (h : Int) * 10 + ((l : Int) * 10 + (digN t[k].toNat : Int)) / 4294967296 := of_decide_eq_true hbig
            have HBIG := Lib.hid hbig'
            clear hbig'
            go_wp2_with (go_at_call 28; refine (value_any _ _ (by omega)).mono ?_; rintro e w' ⟨rfl, rfl⟩)
            go_ret2
            exact ⟨by rw [HT.out, HB.out (by rw [HF.out]; have q1 := HF0.out; have q2 := HBIG.out; unfold Halves at q1; omega)]; rfl, 0, rfl⟩
          · have hok : ¬ 4294967296 ≤ (h : Int) * 10 + ((l : Int) * 10 + (digN t[k].toNat : Int)) / 4294967296 := fun e => hbig (decide_eq_true e)
            have HOK := Lib.hid hok
            have hbig2 : decide (4294967296 ≤ (h : Int) * 10 + ((l : Int) * 10 + (digN t[k].toNat : Int)) / 4294967296) = false := decide_eq_false hok
            clear hbig hok
            go_wp2_with (go_at_call 28; refine (value_any _ _ (by omega)).mono ?_; rintro e w' ⟨rfl, rfl⟩)
            go_round
            case rel =>
              have hok := HOK.out
              refine ⟨k + 1, h * 10 + (l * 10 + digN t[k].toNat) / 4294967296, (l * 10 + digN t[k].toNat) % 4294967296, by omega, by go_num, by omega, by omega, ?_, by go_num, by go_num⟩
              have e1 := HF.out
              have e2 := HF0.out
              unfold Halves at *
              rw [e1, e2]; omega
            case measure => simp [intOf]; omega
        · obtain rfl : k = t.size := by omega
          have hlt64 : foldB 10 (t.data.toList.take t.size) < 18446744073709551616 := by have := HF0.out; unfold Halves at this; omega
          have HP := Lib.hid (parse_ok _ t h0 HA.out hlt64)
          clear hlt hk hlt64
          go_wp2
          go_ret2
          refine ⟨?_, 0, rfl⟩
          have e : ((foldB 10 (t.data.toList.take t.size) : Nat) : Int) = (h : Int) * 4294967296 + (l : Int) := by have := HF0.out; unfold Halves at this; omega
          rw [HT.out, HP.out]
          exact ret_val (congrArg (fun z => Value.tuple #[.int .u64 z, .int .i64 0]) e.symm)

theorem rparse_empty (s : ByteArray) (w : World) (h0 : s.size = 0) :
    Calls Try.prog 24 #[.string s] w fun e w' => e = .returned (.tuple #[.int .u64 (parseL s.data.toList).1, .int .i64 (parseL s.data.toList).2]) ∧ ∃ m, w' = w.drewN m := by
  have HT : Hid (parseL s.data.toList = (0, 20)) := by
    have : s.data.toList = [] := List.eq_nil_of_length_eq_zero (by rw [size_list]; exact h0)
    show _ = _; rw [this]; rfl
  have he : ((s.size : Int) == 0) = true := by rw [beq_iff_eq]; omega
  have hl : ¬ 2 < s.size := by omega
  clear h0
  go_enter Try.func24, Try.ntmps24
  go_wp2
  go_ret2
  exact ⟨by rw [HT.out]; rfl, 0, rfl⟩

theorem rparse_any (s : ByteArray) (w : World) (hs : s.size ≤ maxLen) :
    Calls Try.prog 24 #[.string s] w fun e w' => e = .returned (.tuple #[.int .u64 (parseL s.data.toList).1, .int .i64 (parseL s.data.toList).2]) ∧ ∃ m, w' = w.drewN m := by
  cases hh : hexed s.data.toList
  · by_cases h0 : s.size = 0
    · exact rparse_empty s w h0
    · by_cases h2 : 2 < s.size
      · exact rparse_ten1 s w hs hh (by omega) h2 ((hexed_eq s h2).trans hh)
      · exact rparse_ten3 s w hs hh (by omega) h2
  · exact rparse_hex s w hs hh

end Go.Proofs.Ytpfeeoogjeobdaa
