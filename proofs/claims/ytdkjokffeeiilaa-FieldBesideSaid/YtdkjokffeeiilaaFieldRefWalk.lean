/- Contracts of the package granuleref02: words by their bits. -/
import Derived.Test.YtdkjokffeeiilaaRows
import Derived.Test.YtdkjokffeeiilaaBase
import Derived.Test.YtdkjokffeeiilaaFieldRefPlain
namespace Go.Proofs.Ytdkjokffeeiilaa
open Go.RowKit

theorem el_int : El Try.prog 50 3 (.int .i64 0) 1 8 := ⟨Try.underlying50, by kernel_rfl⟩

theorem may_any (hi lo : Int) (w : World) :
    Calls Try.prog 22 #[.int .i64 hi, .int .i64 lo] w fun e w' => e = .returned (.bool (mayB hi lo)) ∧ w = w' := by
  have H : Hid (mayB hi lo = decide (0 ≤ lo ∧ lo ≤ hi ∧ hi < 64)) := rfl
  by_cases h1 : 0 ≤ lo <;> by_cases h2 : lo ≤ hi <;> by_cases h3 : hi ≤ 63 <;> (
    go_enter Try.func22, Try.ntmps22
    go_wp2
    go_ret
    refine ⟨ret_bool ?_, rfl⟩
    rw [H.out]
    simp [h1, h2]
    try omega)

set_option maxHeartbeats 400000 in
theorem bits_any (x : Int) (w : World) (hx : 0 ≤ x ∧ x < 18446744073709551616) :
    Calls Try.prog 40 #[.int .u64 x] w fun e w' =>
      ∃ v, e = .returned v ∧ w'.ownsRow w.heap.size 3 1 v 64 (ints (bitsN x.toNat)) ∧ Below w.heap.size w w' := by
  obtain ⟨n, rfl⟩ := Int.eq_ofNat_of_zero_le hx.1
  rw [Int.toNat_natCast]
  have hn : n < 18446744073709551616 := by omega
  clear hx
  go_enter Try.func40, Try.ntmps40
  go_wp2_with fail
  go_loopw [3, 4, 0] (fun v i y wr => ∃ k : Nat, k ≤ 64 ∧ i = .int .i64 k ∧ y = .int .u64 (n / 2 ^ k : Nat) ∧ wr.ownsRow w.heap.size 3 1 v k (ints (bitsTo n k)) ∧ Below w.heap.size w wr) (fun _ i _ _ => 64 - (intOf i).toNat)
  case atStart => exact ⟨0, Nat.zero_le _, rfl, by simp, World.ownsRow_nil _ _ _ _, Below.refl _ _⟩
  case round =>
    obtain ⟨k, hk, rfl, rfl, hown, hnx⟩ := hrel
    have hb := hnx.size
    have hq : n / 2 ^ k ≤ n := Nat.div_le_self _ _
    have HS := Lib.hid (bitsTo_succ n k)
    have HD := Lib.hid (show n / 2 ^ (k + 1) = n / 2 ^ k / 2 by rw [Nat.pow_succ, Nat.div_div_eq_div_mul])
    generalize n / 2 ^ k = y at *
    by_cases hlt : k < 64
    · go_wp2_with (at_builtin; refine app1 rfl _ _ 50 rfl w.heap.size 3 (.int .i64 0) 8 el_int rfl _ _ _ rfl hown _ rfl rfl ?c1 ?c2 ?c3 ?_)
      case c1 => unfold maxLen; omega
      case c2 => omega
      case c3 => exact hb
      intro v' w1 hown' hg hb1
      go_wp2
      go_roundw
      case rel => exact ⟨k + 1, by omega, by go_num, by rw [HD.out]; go_num, by rw [HS.out, ints_snoc]; exact hown', hnx.trans hb1⟩
      case measure => simp [intOf]; omega
    · obtain rfl : k = 64 := by omega
      go_wp2
      go_ret
      exact ⟨_, rfl, hown, hnx⟩

theorem word_any (g off cap : Nat) (l : List Nat) (w : World) (hl : l.length ≤ 64) (h1 : ∀ b ∈ l, b ≤ 1)
    (hc : ∀ j, j < l.length → w.cell? ⟨g, off + j, none⟩ = some (.int .i64 (l.getD j 0 : Nat))) :
    Calls Try.prog 39 #[.slice (some ⟨g, off, none⟩) l.length cap] w fun e w' => e = .returned (.int .u64 (wordN l)) ∧ w = w' := by
  go_enter Try.func39, Try.ntmps39
  go_wp2_with fail
  go_loop [4, 3] (fun i y => ∃ k : Nat, k ≤ l.length ∧ i = .int .i64 ((k : Int) - 1) ∧ y = .int .u64 (wordN (l.drop k))) (fun i _ => (intOf i + 1).toNat)
  case atStart => exact ⟨l.length, Nat.le_refl _, rfl, by simp [wordN]⟩
  case round =>
    obtain ⟨k, hk, rfl, rfl⟩ := hrel
    cases k with
    | zero =>
      go_wp2
      go_ret
      exact ⟨by simp, rfl⟩
    | succ m =>
      have hcm := hc m (by omega)
      have hd := Lib.hid (wordN_drop l m (by omega))
      have hw1 : wordN (l.drop (m + 1)) < 9223372036854775808 := by
        have h2 := wordN_lt (l.drop (m + 1)) (fun b hb => h1 b (List.mem_of_mem_drop hb))
        refine Nat.lt_of_lt_of_le h2 ?_
        rw [List.length_drop]
        exact le_pow63 _ (by omega)
      have hb1 : l.getD m 0 ≤ 1 := by
        have : l.getD m 0 = l[m] := by simp [List.getD, List.getElem?_eq_getElem (show m < l.length by omega)]
        rw [this]; exact h1 _ (List.getElem_mem _)
      clear hc h1
      rw [show ((m + 1 : Nat) : Int) - 1 = m from by omega]
      generalize l.getD m 0 = b at *
      generalize wordN (l.drop (m + 1)) = y at *
      go_wp2
      go_round
      case rel => exact ⟨m, by omega, rfl, by rw [hd.out]; go_num⟩
      case measure => simp [intOf]


theorem ints_getD (l : List Nat) (j : Nat) (h : j < l.length) : (ints l)[j]? = some (.int .i64 (l.getD j 0 : Nat)) := by
  simp [ints, List.getD, List.getElem?_eq_getElem h]

theorem word_of {g off cap n : Nat} (l : List Nat) (w : World) (hn : l.length = n) (hl : n ≤ 64) (h1 : ∀ b ∈ l, b ≤ 1)
    (hc : ∀ j, j < n → w.cell? ⟨g, off + j, none⟩ = (ints l)[j]?) :
    Calls Try.prog 39 #[.slice (some ⟨g, off, none⟩) n cap] w fun e w' => e = .returned (.int .u64 (wordN l)) ∧ w = w' := by
  subst hn
  exact word_any g off cap l w hl h1 (fun j hj => by rw [hc j hj, ints_getD _ _ hj])

theorem ints_part (l : List Nat) (lo n j : Nat) (hj : j < n) : (ints ((l.drop lo).take n))[j]? = (ints l)[lo + j]? := by
  simp [ints, hj]

theorem rget_any (x hi lo : Int) (w : World) (hx : 0 ≤ x ∧ x < 18446744073709551616) :
    Calls Try.prog 15 #[.int .u64 x, .int .i64 hi, .int .i64 lo] w fun e w' => e = .returned (.int .u64 (getN x hi lo)) ∧ Below w.heap.size w w' := by
  cases hm : mayB hi lo
  · have H := Lib.hid (show getN x hi lo = 0 by simp [getN, hm])
    go_enter Try.func15, Try.ntmps15
    go_wp2_with (go_at_call 22; refine (may_any _ _ _).mono ?_; rintro e w' ⟨rfl, rfl⟩)
    go_ret
    exact ⟨ret_int (by rw [H.out]; rfl), Below.refl _ _⟩
  · have hm' := hm
    simp only [mayB, decide_eq_true_eq] at hm'
    obtain ⟨h0, h1, h2⟩ := hm'
    have HG := Lib.hid (show getN x hi lo = wordN (((bitsN x.toNat).drop lo.toNat).take (hi.toNat + 1 - lo.toNat)) by
      rw [wordN_part _ _ _ (by omega)]; unfold getN; rw [if_pos hm]; congr 2; omega)
    obtain ⟨h, rfl⟩ := Int.eq_ofNat_of_zero_le (show 0 ≤ hi by omega)
    obtain ⟨l, rfl⟩ := Int.eq_ofNat_of_zero_le h0
    rw [Int.toNat_natCast, Int.toNat_natCast] at HG
    go_enter Try.func15, Try.ntmps15
    go_wp2_with (go_at_call 22; refine (may_any _ _ _).mono ?_; rintro e w' ⟨rfl, rfl⟩)
    refine (bits_any _ _ hx).mono ?_
    rintro e w1 ⟨v, rfl, hown, hb⟩
    obtain ⟨g, cap, rfl, hg1, hg2, hg3, hg4, hc, hf⟩ := own_open hown (by decide)
    unfold maxLen at hg4
    have hc' : ∀ j, j < h + 1 - l → w1.cell? ⟨g, l + j, none⟩ = (ints (((bitsN x.toNat).drop l).take (h + 1 - l)))[j]? := fun j hj => by
      rw [ints_part _ _ _ _ hj]; exact hc _ (by omega)
    have HC := Lib.hid hc'
    have hlen : (((bitsN x.toNat).drop l).take (h + 1 - l)).length = h + 1 - l := by
      rw [List.length_take, List.length_drop, show (bitsN x.toNat).length = 64 from bitsTo_length _ _]; omega
    have HL := Lib.hid hlen
    clear hown hf hc hc' hlen
    go_wp2_with (go_at_call 39; refine (word_of _ _ HL.out (by omega) (fun b hb => bits_le x.toNat 64 b (List.mem_of_mem_drop (List.mem_of_mem_take hb))) HC.out).mono ?_; rintro e w' ⟨rfl, rfl⟩)
    go_ret
    exact ⟨ret_int (by rw [HG.out]), hb⟩

theorem rput_any (x hi lo v : Int) (w : World) (hx : 0 ≤ x ∧ x < 18446744073709551616) (hv : 0 ≤ v ∧ v < 18446744073709551616) :
    Calls Try.prog 21 #[.int .u64 x, .int .i64 hi, .int .i64 lo, .int .u64 v] w fun e w' => e = .returned (.int .u64 (putN x hi lo v)) ∧ Below w.heap.size w w' := by
  cases hm : mayB hi lo
  · have H := Lib.hid (show (putN x hi lo v : Int) = x by simp [putN, hm]; omega)
    go_enter Try.func21, Try.ntmps21
    go_wp2_with (go_at_call 22; refine (may_any _ _ _).mono ?_; rintro e w' ⟨rfl, rfl⟩)
    go_ret
    exact ⟨ret_int (by rw [H.out]), Below.refl _ _⟩
  · have hm' := hm
    simp only [mayB, decide_eq_true_eq] at hm'
    obtain ⟨h0, h1, h2⟩ := hm'
    have HG := Lib.hid (wordN_put x hi lo v hx hm)
    obtain ⟨h, rfl⟩ := Int.eq_ofNat_of_zero_le (show 0 ≤ hi by omega)
    obtain ⟨l, rfl⟩ := Int.eq_ofNat_of_zero_le h0
    rw [Int.toNat_natCast] at HG
    go_enter Try.func21, Try.ntmps21
    go_wp2_with (go_at_call 22; refine (may_any _ _ _).mono ?_; rintro e w' ⟨rfl, rfl⟩)
    refine (bits_any _ _ hx).mono ?_
    rintro e w1 ⟨v1, rfl, hown, hb⟩
    obtain ⟨g, cap, rfl, hg1, hg2, hg3, hg4, hc, hf⟩ := own_open hown (by decide)
    have HO := Lib.hid hown
    clear hown hf hc
    go_wp2_with fail
    refine (bits_any _ _ hv).mono ?_
    rintro e w2 ⟨v2, rfl, hown2, hb2⟩
    obtain ⟨g2, cap2, rfl, hg5, hg6, hg7, hg8, hc2, hf2⟩ := own_open hown2 (by decide)
    have hz := hb.size
    have hz2 := hb2.size
    have HO1 := Lib.hid ((HO.out).kept (below_grown hb2 none) (.inr (by simp [Value.ownBlock])))
    have HO2 := Lib.hid hc2
    clear HO hown2 hf2 hc2
    have hbb : Below w.heap.size w w2 := below_trans hb hb2
    unfold maxLen at hg4 hg8
    go_wp2_with fail
    go_loopw [11] (fun i wr => ∃ k : Nat, l + k ≤ h + 1 ∧ i = .int .i64 ((l + k : Nat) : Int) ∧ wr.ownsRow w.heap.size 3 1 (.slice (some ⟨g, 0, none⟩) 64 cap) 64 (ints (putTo x.toNat v.toNat l k)) ∧ w2.grownBy wr (some g)) (fun i _ => (h + 1 - (intOf i).toNat))
    case atStart => exact ⟨0, by omega, rfl, by rw [putTo_zero]; exact HO1.out, World.grownBy.refl _ _⟩
    case round =>
      obtain ⟨k, hk, rfl, hown, hgr⟩ := hrel
      have hsz := hgr.size
      have hw1 := hown.cellAt
      by_cases hlt : l + k ≤ h
      · obtain ⟨d, HD⟩ : ∃ d : Nat, Hid (d = v.toNat / 2 ^ k % 2) := ⟨_, rfl⟩
        have hcell : wr.cell? ⟨g2, k, none⟩ = some (.int .i64 (d : Nat)) := by
          rw [World.cell?_of_block (w := w2) (hgr.block g2 (by omega) (fun e => by injection e with e; omega)), HO2.out k (by omega), bitsN_at _ _ (by omega), HD.out]
        obtain ⟨d0, hd0⟩ := putTo_at x.toNat v.toNat l k (l + k) (by omega)
        have hold : wr.cell? ⟨g, l + k, none⟩ = some (.int .i64 (d0 : Nat)) := (hw1 (l + k) (by omega)).trans hd0
        have hfz : wr.frozen? ⟨g, l + k, none⟩ = false := hown.frozenAt _
        have HN := Lib.hid (hown.stored (l + k) (.int .i64 (d : Nat)))
        have HP := Lib.hid (putTo_succ x.toNat v.toNat l k (by omega))
        clear hw1 hd0 hown
        go_wp2
        go_roundw
        case rel =>
          refine ⟨k + 1, by omega, by go_num, ?_, ?_⟩
          · have := HN.out.1
            rw [ints_set, HD.out, HP.out] at this
            rw [HD.out]; exact this
          · exact hgr.trans HN.out.2
        case measure => simp [intOf]; omega
      · obtain rfl : k = h + 1 - l := by omega
        have hb3 : Below w.heap.size w wr := hbb.grown hgr (by omega) (fun k hk => by injection hk with hk; omega)
        have HC := Lib.hid hw1
        clear hown hw1
        go_wp2_with (go_at_call 39; refine (word_of _ _ (putTo_length _ _ _ _) (by omega) (putTo_le _ _ _ _) (fun j hj => by rw [Nat.zero_add]; exact HC.out j (by omega))).mono ?_; rintro e w' ⟨rfl, rfl⟩)
        go_ret
        have e1 : ((h : Int) - l + 1).toNat = h + 1 - l := by omega
        rw [e1] at HG
        exact ⟨ret_int (by rw [← HG.out]), hb3⟩

theorem rdown_any (x n : Int) (w : World) (hx : 0 ≤ x ∧ x < 18446744073709551616) :
    Calls Try.prog 23 #[.int .u64 x, .int .i64 n] w fun e w' => e = .returned (.int .u64 (downN x n)) ∧ Below w.heap.size w w' := by
  go_enter Try.func23, Try.ntmps23
  go_wp2_with fail
  refine (bits_any _ _ hx).mono ?_
  rintro e w1 ⟨v1, rfl, hown, hb⟩
  obtain ⟨g, cap, rfl, hg1, hg2, hg3, hg4, hc, hf⟩ := own_open hown (by decide)
  have HO := Lib.hid hown
  clear hown hf hc
  unfold maxLen at hg4
  go_wp2_with fail
  go_loopw [6] (fun i wr => ∃ k : Nat, k ≤ 64 ∧ (k : Int) ≤ max n 0 ∧ i = .int .i64 k ∧ wr.ownsRow w.heap.size 3 1 (.slice (some ⟨g, 0, none⟩) 64 cap) 64 (ints (downTo x.toNat k)) ∧ w1.grownBy wr (some g)) (fun i _ => (64 - (intOf i).toNat))
  case atStart => exact ⟨0, by omega, by omega, rfl, by rw [downTo_zero]; exact HO.out, World.grownBy.refl _ _⟩
  case round =>
    obtain ⟨k, hk, hkn, rfl, hown, hgr⟩ := hrel
    have hsz := hgr.size
    have hw1 := hown.cellAt
    by_cases hlt : (k : Int) < n
    · by_cases h64 : k < 64
      · obtain ⟨d0, hd0⟩ := downTo_at x.toNat k k h64
        have hold : wr.cell? ⟨g, k, none⟩ = some (.int .i64 (d0 : Nat)) := (hw1 k (by omega)).trans hd0
        have hfz : wr.frozen? ⟨g, k, none⟩ = false := hown.frozenAt _
        have HN := Lib.hid (hown.stored k (.int .i64 (0 : Nat)))
        have HP := Lib.hid (downTo_succ x.toNat k h64)
        clear hw1 hd0 hown
        go_wp2
        go_roundw
        case rel =>
          refine ⟨k + 1, by omega, by omega, by go_num, ?_, ?_⟩
          · have := HN.out.1
            rw [ints_set, HP.out] at this
            exact this
          · exact hgr.trans HN.out.2
        case measure => simp [intOf]; omega
      · have HG := Lib.hid (wordN_down x n k hx (by omega))
        have hb3 : Below w.heap.size w wr := hb.grown hgr (by have := hb.size; omega) (fun k hk => by injection hk with hk; omega)
        have HC := Lib.hid hw1
        clear hown hw1
        go_wp2_with (go_at_call 39; refine (word_of _ _ (downTo_length _ _) (by omega) (downTo_le _ _) (fun j hj => by rw [Nat.zero_add]; exact HC.out j (by omega))).mono ?_; rintro e w' ⟨rfl, rfl⟩)
        go_ret
        exact ⟨ret_int (by rw [← HG.out]), hb3⟩
    · have HG := Lib.hid (wordN_down x n k hx (by omega))
      have hb3 : Below w.heap.size w wr := hb.grown hgr (by have := hb.size; omega) (fun k hk => by injection hk with hk; omega)
      have HC := Lib.hid hw1
      clear hown hw1
      go_wp2_with (go_at_call 39; refine (word_of _ _ (downTo_length _ _) (by omega) (downTo_le _ _) (fun j hj => by rw [Nat.zero_add]; exact HC.out j (by omega))).mono ?_; rintro e w' ⟨rfl, rfl⟩)
      go_ret
      exact ⟨ret_int (by rw [← HG.out]), hb3⟩


theorem rsigned_any (x n : Int) (w : World) (hx : 0 ≤ x ∧ x < 18446744073709551616) :
    Calls Try.prog 18 #[.int .u64 x, .int .i64 n] w fun e w' => e = .returned (.int .i64 (signedZ x n)) ∧ Below w.heap.size w w' := by
  by_cases hn : 1 ≤ n ∧ n ≤ 63
  · obtain ⟨hn1, hn2⟩ := hn
    obtain ⟨m, hm⟩ := Int.eq_ofNat_of_zero_le (show 0 ≤ n - 1 by omega)
    have hm62 : m ≤ 62 := by omega
    have HS := Lib.hid (signed_ref x n m (by omega) hm62)
    have hr : x.toNat % 2 ^ m < 2 ^ m := Nat.mod_lt _ (Nat.pow_pos (by decide))
    have HW := Lib.hid (show wordN (((bitsN x.toNat).drop 0).take m) = x.toNat % 2 ^ m by rw [wordN_part _ _ _ (by omega)]; simp)
    generalize x.toNat % 2 ^ m = r at *
    go_enter Try.func18, Try.ntmps18
    go_wp2_with fail
    refine (bits_any _ _ hx).mono ?_
    rintro e w1 ⟨v1, rfl, hown, hb⟩
    obtain ⟨g, cap, rfl, hg1, hg2, hg3, hg4, hc, hf⟩ := own_open hown (by decide)
    unfold maxLen at hg4
    have hcell := (hc m (by omega)).trans (bitsN_at x.toNat m (by omega))
    have hc' : ∀ j, j < m → w1.cell? ⟨g, 0 + j, none⟩ = (ints (((bitsN x.toNat).drop 0).take m))[j]? := fun j hj => by
      rw [ints_part _ _ _ _ hj]; exact (by rw [Nat.zero_add]; exact hc _ (by omega))
    have HC := Lib.hid hc'
    have hlen : (((bitsN x.toNat).drop 0).take m).length = m := by
      rw [List.length_take, List.length_drop, show (bitsN x.toNat).length = 64 from bitsTo_length _ _]; omega
    have HL := Lib.hid hlen
    have hbit : x.toNat / 2 ^ m % 2 < 2 := Nat.mod_lt _ (by decide)
    clear hown hf hc hc' hlen
    generalize x.toNat / 2 ^ m % 2 = d at *
    have hcase : ((d : Int) == 1) = true ∨ ((d : Int) == 1) = false := by cases ((d : Int) == 1) <;> simp
    rcases hcase with hd | hd
    all_goals
      go_wp2_with (go_at_call 39; refine (word_of _ _ HL.out (by omega) (fun b hb => bits_le x.toNat 64 b (List.mem_of_mem_drop (List.mem_of_mem_take hb))) HC.out).mono ?_; rintro e w' ⟨rfl, rfl⟩; rw [HW.out])
      go_ret
      refine ⟨ret_int ?_, hb⟩
      rw [HS.out]
    · exact sg_neg r m d hr hm62 hd
    · exact sg_pos r m d hr hm62 hd
  · have H := Lib.hid (show signedZ x n = 0 by unfold signedZ; rw [if_neg hn])
    by_cases h1 : n < 1
    · clear hn
      go_enter Try.func18, Try.ntmps18
      go_wp2
      go_ret
      exact ⟨ret_int (by rw [H.out]), Below.refl _ _⟩
    · have h2 : 63 < n := by omega
      clear hn
      go_enter Try.func18, Try.ntmps18
      go_wp2
      go_ret
      exact ⟨ret_int (by rw [H.out]), Below.refl _ _⟩

end Go.Proofs.Ytdkjokffeeiilaa
