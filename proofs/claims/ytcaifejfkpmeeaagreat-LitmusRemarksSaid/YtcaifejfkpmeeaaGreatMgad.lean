/- append of one element of several cells onto a row of the call's own. -/
import Derived.Test.YtcaifejfkpmeeaaGreatMgaa
import Derived.Test.YtcaifejfkpmeeaaGreatRows
import Derived.Laws.Rows
import Derived.Deep.AppendLies
namespace Go.Proofs.YtcaifejfkpmeeaaGreat
open Go.RowKit

theorem digit_any (c : Int) (w : World) (hc : 0 ≤ c ∧ c ≤ 255) :
    Calls Tryz.prog 55 #[.int .u8 c] w fun e w' => e = .returned (.int .u64 (digN c.toNat)) ∧ w = w' := by
  obtain ⟨n, rfl⟩ := Int.eq_ofNat_of_zero_le hc.1
  have H : Hid (digN n = if 48 ≤ n ∧ n ≤ 57 then n - 48 else if 97 ≤ n ∧ n ≤ 102 then n - 97 + 10 else if 65 ≤ n ∧ n ≤ 70 then n - 65 + 10 else 99) := rfl
  rw [Int.toNat_natCast]
  by_cases h1 : 48 ≤ n <;> by_cases h2 : n ≤ 57 <;> by_cases h3 : 97 ≤ n <;> by_cases h4 : n ≤ 102 <;> by_cases h5 : 65 ≤ n <;> by_cases h6 : n ≤ 70 <;> first
    | (exfalso; omega)
    | (go_enter Tryz.func55, Tryz.ntmps55
       go_wp2
       go_ret
       refine ⟨ret_int ?_, rfl⟩
       rw [H.out]
       simp [h1, h2, h3, h4, h5, h6]
       try omega)

theorem parse_hex (s : ByteArray) (w : World) (hs : s.size ≤ maxLen) (hh : hexed s.data.toList = true) :
    Calls Tryz.prog 40 #[.string s] w fun e w' => e = .returned (.tuple #[.int .u64 (parseL s.data.toList).1, .int .i64 (parseL s.data.toList).2]) ∧ ∃ m, w' = w.drewN m := by
  unfold maxLen at hs
  have HT0 : Hid (parseL s.data.toList = parseT 16 (s.data.toList.drop 2)) := by
    show _ = _; unfold parseL; rw [if_pos hh]
  obtain ⟨h2, a0, a1, a2, a3, a4, a5, a6⟩ := hexed_facts s hh
  have HA5 := Lib.hid a5
  have HZ := Lib.hid a6
  clear hh a5 a6
  go_enter Tryz.func40, Tryz.ntmps40
  go_wp2_with fail
  generalize s.extract 2 s.size = t at *
  rw [HZ.out]
  have HT : Hid (parseL s.data.toList = parseT 16 t.data.toList) := by
    show _ = _; rw [HA5.out]; exact HT0.out
  have h0 := a3

  go_loop [28] (fun i => ∃ k : Nat, k ≤ t.size ∧ i = .int .i64 k ∧ goodTo 16 t.data.toList k = true) (fun i => t.size - (intOf i).toNat)
  case atStart => exact ⟨0, Nat.zero_le _, rfl, goodTo_zero _ _⟩
  case round =>
    obtain ⟨k, hk, rfl, hg⟩ := hrel
    have HG := Lib.hid hg
    clear hg
    by_cases hlt : k < t.size
    · have h255 := UInt8.toNat_lt t[k]
      by_cases hd : digN t[k].toNat < 16
      · go_wp2_with (go_at_call 55; refine (digit_any _ _ (by omega)).mono ?_; rintro e w' ⟨rfl, rfl⟩)
        go_round
        case rel => exact ⟨k + 1, by omega, by go_num, goodTo_next _ t k hlt HG.out hd⟩
        case measure => simp [intOf]; omega
      · have HB := Lib.hid (bad_any _ t k hlt hd)
        go_wp2_with (go_at_call 55; refine (digit_any _ _ (by omega)).mono ?_; rintro e w' ⟨rfl, rfl⟩)
        go_ret2
        exact ⟨by rw [HT.out, HB.out]; rfl, 0, rfl⟩
    · obtain rfl : k = t.size := by omega
      have HA := Lib.hid (goodTo_all _ t HG.out)
      clear hlt hk HG
      go_wp2_with fail
      go_loop [40, 6] (fun i n => ∃ k : Nat, k ≤ t.size ∧ i = .int .i64 k ∧ foldB 16 (t.data.toList.take k) < 18446744073709551616 ∧ n = .int .u64 (foldB 16 (t.data.toList.take k))) (fun i _ => t.size - (intOf i).toNat)
      case atStart => exact ⟨0, Nat.zero_le _, rfl, by simp [foldB], rfl⟩
      case round =>
        obtain ⟨k, hk, rfl, hf, rfl⟩ := hrel
        by_cases hlt : k < t.size
        · have h255 := UInt8.toNat_lt t[k]
          have hd := good_at _ t k hlt HA.out
          have HF := Lib.hid (foldB_take 16 t k hlt)
          have HB := Lib.hid (parse_big 16 (by decide) t k hlt HA.out)
          go_wp2_with (go_at_call 55; refine (digit_any _ _ (by omega)).mono ?_; rintro e w' ⟨rfl, rfl⟩)
          · have hbig : (18446744073709551615 - (digN t[k].toNat : Int)) / 16 < (foldB 16 (t.data.toList.take k) : Int) := by assumption
            go_ret2
            exact ⟨by rw [HT.out, HB.out (by rw [HF.out]; omega)]; rfl, 0, rfl⟩
          · have hok : (foldB 16 (t.data.toList.take k) : Int) ≤ (18446744073709551615 - (digN t[k].toNat : Int)) / 16 := by assumption
            go_round
            case rel => exact ⟨k + 1, by omega, by go_num, by rw [HF.out]; omega, by rw [HF.out]; go_num⟩
            case measure => simp [intOf]; omega
        · obtain rfl : k = t.size := by omega
          have HP := Lib.hid (parse_ok _ t h0 HA.out hf)
          clear hlt hk
          go_wp2
          go_ret2
          exact ⟨by rw [HT.out, HP.out]; rfl, 0, rfl⟩

theorem parse_ten1 (t : ByteArray) (w : World) (hs : t.size ≤ maxLen) (hh : hexed t.data.toList = false) (h0 : 0 < t.size) (h2 : 2 < t.size) (c0 : ((t[0].toNat : Int) == 48) = false) :
    Calls Tryz.prog 40 #[.string t] w fun e w' => e = .returned (.tuple #[.int .u64 (parseL t.data.toList).1, .int .i64 (parseL t.data.toList).2]) ∧ ∃ m, w' = w.drewN m := by
  unfold maxLen at hs
  have HT : Hid (parseL t.data.toList = parseT 10 t.data.toList) := by
    show _ = _; unfold parseL; rw [hh]; rfl
  have he : t.toList.isEmpty = false := notEmpty t h0
  clear hh
  go_enter Tryz.func40, Tryz.ntmps40
  go_wp2_with fail

  go_loop [28] (fun i => ∃ k : Nat, k ≤ t.size ∧ i = .int .i64 k ∧ goodTo 10 t.data.toList k = true) (fun i => t.size - (intOf i).toNat)
  case atStart => exact ⟨0, Nat.zero_le _, rfl, goodTo_zero _ _⟩
  case round =>
    obtain ⟨k, hk, rfl, hg⟩ := hrel
    have HG := Lib.hid hg
    clear hg
    by_cases hlt : k < t.size
    · have h255 := UInt8.toNat_lt t[k]
      by_cases hd : digN t[k].toNat < 10
      · go_wp2_with (go_at_call 55; refine (digit_any _ _ (by omega)).mono ?_; rintro e w' ⟨rfl, rfl⟩)
        go_round
        case rel => exact ⟨k + 1, by omega, by go_num, goodTo_next _ t k hlt HG.out hd⟩
        case measure => simp [intOf]; omega
      · have HB := Lib.hid (bad_any _ t k hlt hd)
        go_wp2_with (go_at_call 55; refine (digit_any _ _ (by omega)).mono ?_; rintro e w' ⟨rfl, rfl⟩)
        go_ret2
        exact ⟨by rw [HT.out, HB.out]; rfl, 0, rfl⟩
    · obtain rfl : k = t.size := by omega
      have HA := Lib.hid (goodTo_all _ t HG.out)
      clear hlt hk HG
      go_wp2_with fail
      go_loop [40, 6] (fun i n => ∃ k : Nat, k ≤ t.size ∧ i = .int .i64 k ∧ foldB 10 (t.data.toList.take k) < 18446744073709551616 ∧ n = .int .u64 (foldB 10 (t.data.toList.take k))) (fun i _ => t.size - (intOf i).toNat)
      case atStart => exact ⟨0, Nat.zero_le _, rfl, by simp [foldB], rfl⟩
      case round =>
        obtain ⟨k, hk, rfl, hf, rfl⟩ := hrel
        by_cases hlt : k < t.size
        · have h255 := UInt8.toNat_lt t[k]
          have hd := good_at _ t k hlt HA.out
          have HF := Lib.hid (foldB_take 10 t k hlt)
          have HB := Lib.hid (parse_big 10 (by decide) t k hlt HA.out)
          go_wp2_with (go_at_call 55; refine (digit_any _ _ (by omega)).mono ?_; rintro e w' ⟨rfl, rfl⟩)
          · have hbig : (18446744073709551615 - (digN t[k].toNat : Int)) / 10 < (foldB 10 (t.data.toList.take k) : Int) := by assumption
            go_ret2
            exact ⟨by rw [HT.out, HB.out (by rw [HF.out]; omega)]; rfl, 0, rfl⟩
          · have hok : (foldB 10 (t.data.toList.take k) : Int) ≤ (18446744073709551615 - (digN t[k].toNat : Int)) / 10 := by assumption
            go_round
            case rel => exact ⟨k + 1, by omega, by go_num, by rw [HF.out]; omega, by rw [HF.out]; go_num⟩
            case measure => simp [intOf]; omega
        · obtain rfl : k = t.size := by omega
          have HP := Lib.hid (parse_ok _ t h0 HA.out hf)
          clear hlt hk
          go_wp2
          go_ret2
          exact ⟨by rw [HT.out, HP.out]; rfl, 0, rfl⟩

theorem parse_ten2 (t : ByteArray) (w : World) (hs : t.size ≤ maxLen) (hh : hexed t.data.toList = false) (h0 : 0 < t.size) (h2 : 2 < t.size) (c0 : ((t[0].toNat : Int) == 48) = true) (c1 : ((t[1].toNat : Int) == 120) = false) :
    Calls Tryz.prog 40 #[.string t] w fun e w' => e = .returned (.tuple #[.int .u64 (parseL t.data.toList).1, .int .i64 (parseL t.data.toList).2]) ∧ ∃ m, w' = w.drewN m := by
  unfold maxLen at hs
  have HT : Hid (parseL t.data.toList = parseT 10 t.data.toList) := by
    show _ = _; unfold parseL; rw [hh]; rfl
  have he : t.toList.isEmpty = false := notEmpty t h0
  clear hh
  go_enter Tryz.func40, Tryz.ntmps40
  go_wp2_with fail

  go_loop [28] (fun i => ∃ k : Nat, k ≤ t.size ∧ i = .int .i64 k ∧ goodTo 10 t.data.toList k = true) (fun i => t.size - (intOf i).toNat)
  case atStart => exact ⟨0, Nat.zero_le _, rfl, goodTo_zero _ _⟩
  case round =>
    obtain ⟨k, hk, rfl, hg⟩ := hrel
    have HG := Lib.hid hg
    clear hg
    by_cases hlt : k < t.size
    · have h255 := UInt8.toNat_lt t[k]
      by_cases hd : digN t[k].toNat < 10
      · go_wp2_with (go_at_call 55; refine (digit_any _ _ (by omega)).mono ?_; rintro e w' ⟨rfl, rfl⟩)
        go_round
        case rel => exact ⟨k + 1, by omega, by go_num, goodTo_next _ t k hlt HG.out hd⟩
        case measure => simp [intOf]; omega
      · have HB := Lib.hid (bad_any _ t k hlt hd)
        go_wp2_with (go_at_call 55; refine (digit_any _ _ (by omega)).mono ?_; rintro e w' ⟨rfl, rfl⟩)
        go_ret2
        exact ⟨by rw [HT.out, HB.out]; rfl, 0, rfl⟩
    · obtain rfl : k = t.size := by omega
      have HA := Lib.hid (goodTo_all _ t HG.out)
      clear hlt hk HG
      go_wp2_with fail
      go_loop [40, 6] (fun i n => ∃ k : Nat, k ≤ t.size ∧ i = .int .i64 k ∧ foldB 10 (t.data.toList.take k) < 18446744073709551616 ∧ n = .int .u64 (foldB 10 (t.data.toList.take k))) (fun i _ => t.size - (intOf i).toNat)
      case atStart => exact ⟨0, Nat.zero_le _, rfl, by simp [foldB], rfl⟩
      case round =>
        obtain ⟨k, hk, rfl, hf, rfl⟩ := hrel
        by_cases hlt : k < t.size
        · have h255 := UInt8.toNat_lt t[k]
          have hd := good_at _ t k hlt HA.out
          have HF := Lib.hid (foldB_take 10 t k hlt)
          have HB := Lib.hid (parse_big 10 (by decide) t k hlt HA.out)
          go_wp2_with (go_at_call 55; refine (digit_any _ _ (by omega)).mono ?_; rintro e w' ⟨rfl, rfl⟩)
          · have hbig : (18446744073709551615 - (digN t[k].toNat : Int)) / 10 < (foldB 10 (t.data.toList.take k) : Int) := by assumption
            go_ret2
            exact ⟨by rw [HT.out, HB.out (by rw [HF.out]; omega)]; rfl, 0, rfl⟩
          · have hok : (foldB 10 (t.data.toList.take k) : Int) ≤ (18446744073709551615 - (digN t[k].toNat : Int)) / 10 := by assumption
            go_round
            case rel => exact ⟨k + 1, by omega, by go_num, by rw [HF.out]; omega, by rw [HF.out]; go_num⟩
            case measure => simp [intOf]; omega
        · obtain rfl : k = t.size := by omega
          have HP := Lib.hid (parse_ok _ t h0 HA.out hf)
          clear hlt hk
          go_wp2
          go_ret2
          exact ⟨by rw [HT.out, HP.out]; rfl, 0, rfl⟩

theorem parse_ten3 (t : ByteArray) (w : World) (hs : t.size ≤ maxLen) (hh : hexed t.data.toList = false) (h0 : 0 < t.size) (h2 : ¬ 2 < t.size) :
    Calls Tryz.prog 40 #[.string t] w fun e w' => e = .returned (.tuple #[.int .u64 (parseL t.data.toList).1, .int .i64 (parseL t.data.toList).2]) ∧ ∃ m, w' = w.drewN m := by
  unfold maxLen at hs
  have HT : Hid (parseL t.data.toList = parseT 10 t.data.toList) := by
    show _ = _; unfold parseL; rw [hh]; rfl
  have he : t.toList.isEmpty = false := notEmpty t h0
  clear hh
  go_enter Tryz.func40, Tryz.ntmps40
  go_wp2_with fail

  go_loop [28] (fun i => ∃ k : Nat, k ≤ t.size ∧ i = .int .i64 k ∧ goodTo 10 t.data.toList k = true) (fun i => t.size - (intOf i).toNat)
  case atStart => exact ⟨0, Nat.zero_le _, rfl, goodTo_zero _ _⟩
  case round =>
    obtain ⟨k, hk, rfl, hg⟩ := hrel
    have HG := Lib.hid hg
    clear hg
    by_cases hlt : k < t.size
    · have h255 := UInt8.toNat_lt t[k]
      by_cases hd : digN t[k].toNat < 10
      · go_wp2_with (go_at_call 55; refine (digit_any _ _ (by omega)).mono ?_; rintro e w' ⟨rfl, rfl⟩)
        go_round
        case rel => exact ⟨k + 1, by omega, by go_num, goodTo_next _ t k hlt HG.out hd⟩
        case measure => simp [intOf]; omega
      · have HB := Lib.hid (bad_any _ t k hlt hd)
        go_wp2_with (go_at_call 55; refine (digit_any _ _ (by omega)).mono ?_; rintro e w' ⟨rfl, rfl⟩)
        go_ret2
        exact ⟨by rw [HT.out, HB.out]; rfl, 0, rfl⟩
    · obtain rfl : k = t.size := by omega
      have HA := Lib.hid (goodTo_all _ t HG.out)
      clear hlt hk HG
      go_wp2_with fail
      go_loop [40, 6] (fun i n => ∃ k : Nat, k ≤ t.size ∧ i = .int .i64 k ∧ foldB 10 (t.data.toList.take k) < 18446744073709551616 ∧ n = .int .u64 (foldB 10 (t.data.toList.take k))) (fun i _ => t.size - (intOf i).toNat)
      case atStart => exact ⟨0, Nat.zero_le _, rfl, by simp [foldB], rfl⟩
      case round =>
        obtain ⟨k, hk, rfl, hf, rfl⟩ := hrel
        by_cases hlt : k < t.size
        · have h255 := UInt8.toNat_lt t[k]
          have hd := good_at _ t k hlt HA.out
          have HF := Lib.hid (foldB_take 10 t k hlt)
          have HB := Lib.hid (parse_big 10 (by decide) t k hlt HA.out)
          go_wp2_with (go_at_call 55; refine (digit_any _ _ (by omega)).mono ?_; rintro e w' ⟨rfl, rfl⟩)
          · have hbig : (18446744073709551615 - (digN t[k].toNat : Int)) / 10 < (foldB 10 (t.data.toList.take k) : Int) := by assumption
            go_ret2
            exact ⟨by rw [HT.out, HB.out (by rw [HF.out]; omega)]; rfl, 0, rfl⟩
          · have hok : (foldB 10 (t.data.toList.take k) : Int) ≤ (18446744073709551615 - (digN t[k].toNat : Int)) / 10 := by assumption
            go_round
            case rel => exact ⟨k + 1, by omega, by go_num, by rw [HF.out]; omega, by rw [HF.out]; go_num⟩
            case measure => simp [intOf]; omega
        · obtain rfl : k = t.size := by omega
          have HP := Lib.hid (parse_ok _ t h0 HA.out hf)
          clear hlt hk
          go_wp2
          go_ret2
          exact ⟨by rw [HT.out, HP.out]; rfl, 0, rfl⟩

theorem parse_empty (s : ByteArray) (w : World) (h0 : s.size = 0) :
    Calls Tryz.prog 40 #[.string s] w fun e w' => e = .returned (.tuple #[.int .u64 (parseL s.data.toList).1, .int .i64 (parseL s.data.toList).2]) ∧ ∃ m, w' = w.drewN m := by
  have HT : Hid (parseL s.data.toList = (0, 20)) := by
    have : s.data.toList = [] := List.eq_nil_of_length_eq_zero (by rw [size_list]; exact h0)
    show _ = _; rw [this]; rfl
  have he : s.toList.isEmpty = true := empty_of s h0
  have hl : ¬ 2 < s.size := by omega
  clear h0
  go_enter Tryz.func40, Tryz.ntmps40
  go_wp2
  go_ret2
  exact ⟨by rw [HT.out]; rfl, 0, rfl⟩

theorem parse_any (s : ByteArray) (w : World) (hs : s.size ≤ maxLen) :
    Calls Tryz.prog 40 #[.string s] w fun e w' => e = .returned (.tuple #[.int .u64 (parseL s.data.toList).1, .int .i64 (parseL s.data.toList).2]) ∧ ∃ m, w' = w.drewN m := by
  cases hh : hexed s.data.toList
  · by_cases h0 : s.size = 0
    · exact parse_empty s w h0
    · by_cases h2 : 2 < s.size
      · rcases not_hexed_facts s hh h2 with h | ⟨h, h'⟩
        · exact parse_ten1 s w hs hh (by omega) h2 h
        · exact parse_ten2 s w hs hh (by omega) h2 h h'
      · exact parse_ten3 s w hs hh (by omega) h2
  · exact parse_hex s w hs hh

end Go.Proofs.YtcaifejfkpmeeaaGreat
namespace Go.Proofs.YtcaifejfkpmeeaaGreat
open Go.RowKit

theorem app1s {P : Program} {ops : Array Oper} {rest : List Oper} {o : Oper} {a : Act} {Q : Exit → Act → World → Prop} {wr : World} (hgd : o.guard = none) (s x : Operand) (t : TypeId)
    (ho : o.op = .call { callee := .builtin .append, args := #[s, x], argTypes := #[t, t] })
    (base : Nat) (e : TypeId) (z : Value) (size bytes : Nat) (hel : El P t e z size bytes) (hzs : z.cells.size = size) (hsz : 0 < size)
    (v : Value) (n : Nat) (xs : List Value) (hs : a.eval s = v) (hown : wr.ownsRow base e size v n xs)
    (us : List Value) (hus : us.length = size) (g : Nat) (hx : a.eval x = .slice (some ⟨g, 0, none⟩) 1 1) (hg : g = wr.heap.size) (h1 : ∀ u ∈ us, u.oneCell' = true)
    (hn : n + 1 ≤ maxLen) (hby : (n + 1) * bytes ≤ 140737488355328) (hbase : base ≤ wr.heap.size)
    (h : ∀ v' w', w'.ownsRow base e size v' (n + 1) (xs ++ us) → wr.grownBy w' v.ownBlock → Below base wr w' → wpList P ops Q rest (a.put o.dst v') w') :
    wpList P ops Q (o :: rest) a (wr.alloc (.cells us.toArray e)) := by
  subst hg
  obtain ⟨ht, hinfo⟩ := hel
  obtain ⟨i, hi, hz0, hz1, hz2⟩ := info_parts hinfo
  refine wpList_append_own (wr.alloc (.cells us.toArray e)) hgd s x t ho base e i z size bytes ht hi hz0 hz1 hz2 hzs hsz v n xs hs (hown.alloc _) ⟨wr.heap.size, 0, none⟩ 1 1 us hx (by omega) ?_ h1 hn hby (by simp; omega) ?_
  · intro j u' hj
    have hc : (wr.alloc (.cells us.toArray e)).cell? ⟨wr.heap.size, j, none⟩ = us[j]? := by
      rw [cell_of_row _ _ j _ _ _ (heap_alloc_new wr _)]; simp
    rw [addr_add, Nat.zero_add]; exact hc.trans hj
  · intro v' w' hown' hg _
    have hg' : wr.grownBy w' v.ownBlock := ⟨hg.os, hg.tape, hg.output, Nat.le_trans (by simp) hg.size, fun k hk hne => (hg.block k (by simp; omega) hne).trans (Below.heap_alloc wr _ k hk)⟩
    exact h v' w' hown' hg' ((Below.refl base wr).grown hg' hbase (fun k hk => (hown.lt k hk).1))

/-- The same, with where the new row lies. -/
theorem app1l {P : Program} {ops : Array Oper} {rest : List Oper} {o : Oper} {a : Act} {Q : Exit → Act → World → Prop} {wr : World} (hgd : o.guard = none) (s x : Operand) (t : TypeId)
    (ho : o.op = .call { callee := .builtin .append, args := #[s, x], argTypes := #[t, t] })
    (base : Nat) (e : TypeId) (z : Value) (size bytes : Nat) (hel : El P t e z size bytes) (hzs : z.cells.size = size) (hsz : 0 < size)
    (v : Value) (n : Nat) (xs : List Value) (hs : a.eval s = v) (hown : wr.ownsRow base e size v n xs)
    (us : List Value) (hus : us.length = size) (g : Nat) (hx : a.eval x = .slice (some ⟨g, 0, none⟩) 1 1) (hg : g = wr.heap.size) (h1 : ∀ u ∈ us, u.oneCell' = true)
    (hn : n + 1 ≤ maxLen) (hby : (n + 1) * bytes ≤ 140737488355328) (hbase : base ≤ wr.heap.size)
    (h : ∀ v' w', w'.ownsRow base e size v' (n + 1) (xs ++ us) → wr.grownBy w' v.ownBlock → Below base wr w' → (∀ k, v'.ownBlock = some k → v.ownBlock = some k ∨ wr.heap.size ≤ k) → wpList P ops Q rest (a.put o.dst v') w') :
    wpList P ops Q (o :: rest) a (wr.alloc (.cells us.toArray e)) := by
  subst hg
  obtain ⟨ht, hinfo⟩ := hel
  obtain ⟨i, hi, hz0, hz1, hz2⟩ := info_parts hinfo
  refine wpList_plain hgd fun _ hK => wp_append_lies (wr.alloc (.cells us.toArray e)) s x t ho base e i z size bytes ht hi hz0 hz1 hz2 hzs hsz v n xs hs (hown.alloc _) ⟨wr.heap.size, 0, none⟩ 1 1 us hx (by omega) ?_ h1 (by decide) hn hby (by simp; omega) _ rfl ?_
  · intro j u' hj
    have hc : (wr.alloc (.cells us.toArray e)).cell? ⟨wr.heap.size, j, none⟩ = us[j]? := by
      rw [cell_of_row _ _ j _ _ _ (heap_alloc_new wr _)]; simp
    rw [addr_add, Nat.zero_add]; exact hc.trans hj
  · intro g cap w' hown' hg hlie hlt
    have hg' : wr.grownBy w' v.ownBlock := ⟨hg.os, hg.tape, hg.output, Nat.le_trans (by simp) hg.size, fun k hk hne => (hg.block k (by simp; omega) hne).trans (Below.heap_alloc wr _ k hk)⟩
    refine hK _ _ (h _ w' hown' hg' ((Below.refl base wr).grown hg' hbase (fun k hk => (hown.lt k hk).1)) fun k hk => ?_)
    have hk' : g = k := by simpa [Value.ownBlock] using hk
    subst hk'
    rcases hlie with h2 | h2
    · exact .inl h2
    · right; rw [h2]; simp

/-- The same, as a step of a region that draws its order. -/
theorem step_app1s {P : Program} {ops : Array Oper} {o : Oper} {a : Act} {K : Act → World → Prop} {Q : Exit → Act → World → Prop} {E : Prop} {wr : World} (hgd : o.guard = none) (s x : Operand) (t : TypeId)
    (ho : o.op = .call { callee := .builtin .append, args := #[s, x], argTypes := #[t, t] })
    (base : Nat) (e : TypeId) (z : Value) (size bytes : Nat) (hel : El P t e z size bytes) (hzs : z.cells.size = size) (hsz : 0 < size)
    (v : Value) (n : Nat) (xs : List Value) (hs : a.eval s = v) (hown : wr.ownsRow base e size v n xs)
    (us : List Value) (hus : us.length = size) (g : Nat) (hx : a.eval x = .slice (some ⟨g, 0, none⟩) 1 1) (hg : g = wr.heap.size) (h1 : ∀ u ∈ us, u.oneCell' = true)
    (hn : n + 1 ≤ maxLen) (hby : (n + 1) * bytes ≤ 140737488355328) (hbase : base ≤ wr.heap.size)
    (h : ∀ v' w', w'.ownsRow base e size v' (n + 1) (xs ++ us) → wr.grownBy w' v.ownBlock → Below base wr w' → K (a.put o.dst v') w') :
    if Region.wanted o (yielded ops a.tmps) = true then Oper.wp P o a (wr.alloc (.cells us.toArray e)) K Q else E := by
  have hw : Region.wanted o (yielded ops a.tmps) = true := by simp [Region.wanted, hgd]
  rw [if_pos hw]
  subst hg
  obtain ⟨ht, hinfo⟩ := hel
  obtain ⟨i, hi, hz0, hz1, hz2⟩ := info_parts hinfo
  refine wp_append_own (wr.alloc (.cells us.toArray e)) s x t ho base e i z size bytes ht hi hz0 hz1 hz2 hzs hsz v n xs hs (hown.alloc _) ⟨wr.heap.size, 0, none⟩ 1 1 us hx (by omega) ?_ h1 hn hby (by simp; omega) ?_
  · intro j u' hj
    have hc : (wr.alloc (.cells us.toArray e)).cell? ⟨wr.heap.size, j, none⟩ = us[j]? := by
      rw [cell_of_row _ _ j _ _ _ (heap_alloc_new wr _)]; simp
    rw [addr_add, Nat.zero_add]; exact hc.trans hj
  · intro v' w' hown' hg _
    have hg' : wr.grownBy w' v.ownBlock := ⟨hg.os, hg.tape, hg.output, Nat.le_trans (by simp) hg.size, fun k hk hne => (hg.block k (by simp; omega) hne).trans (Below.heap_alloc wr _ k hk)⟩
    exact h v' w' hown' hg' ((Below.refl base wr).grown hg' hbase (fun k hk => (hown.lt k hk).1))

/-- A row of the call's own: its shape. -/
theorem own_form {w : World} {base : Nat} {e : TypeId} {size : Nat} {v : Value} {n : Nat} {xs : List Value} (h : w.ownsRow base e size v n xs) : ∃ p c, v = .slice p n c ∧ (p = none → c = 0) := by
  obtain ⟨_, ⟨rfl, rfl⟩ | ⟨g, cap, cur, rfl, _⟩⟩ := h
  · exact ⟨_, _, rfl, fun _ => rfl⟩
  · exact ⟨_, _, rfl, fun h => by cases h⟩
theorem own_below {w w' : World} {base : Nat} {e : TypeId} {size : Nat} {v : Value} {n : Nat} {xs : List Value} (h : w.ownsRow base e size v n xs) (hb : Below w.heap.size w w') : w'.ownsRow base e size v n xs := by
  refine h.kept (below_grown hb none) ?_
  cases hv : v.ownBlock with
  | none => exact .inl rfl
  | some k => exact .inr (by simp)
end Go.Proofs.YtcaifejfkpmeeaaGreat
