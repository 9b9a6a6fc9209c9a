/- strings.IndexAny at the bytes that part a text's words: at any bytes. -/
import Derived.Test.YtlhkjjfdmglabaaAsmLays
import Derived.Laws.Runes
import Derived.Lib.OthersKept
namespace Go.Proofs.Ytlhkjjfdmglabaa
open Go.RowKit Go.Shelf
set_option linter.unusedVariables false
set_option linter.unusedSimpArgs false

/-- The bytes that part words: a blank, a tab, the three signs. -/
def sepL : List UInt8 := [32, 9, 44, 91, 93]
def sepB : ByteArray := ⟨#[32, 9, 44, 91, 93]⟩
/-- What a rune of more than one byte goes past are bytes above 127. -/
theorem decode_past (s : ByteArray) (i : Nat) (h : i < s.size) (ha : 128 ≤ (s[i]'h).toNat) : i + (Utf8.decode s i).2 ≤ s.size ∧ ∀ k, i ≤ k → k < i + (Utf8.decode s i).2 → 128 ≤ (s.get! k).toNat := by
  have hn : ¬ (s[i]'h).toNat < 128 := by omega
  have h0 : 128 ≤ (s.get! i).toNat := by
    have := get_at s i h
    rw [Nat.add_zero] at this
    rw [this]; exact ha
  simp only [Utf8.decode, get_at s i h, hn, if_false]
  have one : i + 1 ≤ s.size ∧ ∀ k, i ≤ k → k < i + 1 → 128 ≤ (s.get! k).toNat := ⟨h, fun k h1 h2 => by
    obtain rfl : k = i := by omega
    exact h0⟩
  split
  · rename_i h1
    simp only [Bool.and_eq_true, decide_eq_true_eq, beq_iff_eq] at h1
    split
    · refine ⟨by simp only; omega, fun k h3 h4 => ?_⟩
      simp only at h4
      by_cases e : k = i
      · subst e; exact h0
      · obtain rfl : k = i + 1 := by omega
        omega
    · exact one
  · split
    · rename_i h1
      simp only [Bool.and_eq_true, decide_eq_true_eq, beq_iff_eq] at h1
      split
      · refine ⟨by simp only; omega, fun k h3 h4 => ?_⟩
        simp only at h4
        by_cases e : k = i
        · subst e; exact h0
        · by_cases e2 : k = i + 1
          · subst e2; omega
          · obtain rfl : k = i + 2 := by omega
            omega
      · exact one
    · split
      · rename_i h1
        simp only [Bool.and_eq_true, decide_eq_true_eq, beq_iff_eq] at h1
        split
        · refine ⟨by simp only; omega, fun k h3 h4 => ?_⟩
          simp only at h4
          by_cases e : k = i
          · subst e; exact h0
          · by_cases e2 : k = i + 1
            · subst e2; omega
            · by_cases e3 : k = i + 2
              · subst e3; omega
              · obtain rfl : k = i + 3 := by omega
                omega
        · exact one
      · exact one
theorem noAny_past {s : ByteArray} {i : Nat} (h : i < s.size) (ha : 128 ≤ (s[i]'h).toNat) (hno : Lib.NoAny s.data.toList sepL i) : Lib.NoAny s.data.toList sepL (i + (Utf8.decode s i).2) := by
  obtain ⟨h1, h2⟩ := decode_past s i h ha
  intro j b hj hb
  by_cases hji : j < i
  · exact hno j b hji hb
  · have h3 := h2 j (by omega) hj
    have hjs : j < s.size := by omega
    have e : s.get! j = b := by
      have := get_at s j hjs
      rw [Nat.add_zero] at this
      rw [this]
      have h4 := Lib.data_getElem? s j hjs
      rw [hb] at h4
      injection h4 with h4
      exact h4.symm
    rw [e] at h3
    have : ∀ c : UInt8, 128 ≤ c.toNat → sepL.contains c = false := by
      intro c hc
      unfold sepL
      rw [List.contains_eq_any_beq]
      simp only [List.any_cons, List.any_nil, Bool.or_false, Bool.or_eq_false_iff, beq_eq_false_iff_ne, ne_eq]
      refine ⟨?_, ?_, ?_, ?_, ?_⟩ <;> (rintro rfl; simp at hc)
    exact this b h3

theorem sep_at : ∀ i (h : i < sepB.size), (sepB[i]'h).toNat < 128 ∧ ((sepB[i]'h).toNat : Int) ≠ 65533 := by decide
theorem sep_all : ∀ b ∈ sepB.data.toList, b.toNat < 128 := by decide
/-- A byte above 127 is not in a text of bytes below. -/
theorem ixb_no (t : ByteArray) (c : UInt8) (w : World) (ht : ∀ b ∈ t.data.toList, b.toNat < 128) (hc : 128 ≤ c.toNat) :
    Calls Try.prog 65 #[.string t, .int .u8 c.toNat] w fun e w' => e = .returned (.int .i64 (-1)) ∧ ∃ m, w' = w.drewN m := by
  refine (Any.strings_IndexByte (P := Try.prog) { lays153 with } t (c.toNat : Int) w).mono ?_
  rintro e w' ⟨rfl, rfl⟩
  refine ⟨?_, 0, rfl⟩
  have hb : ((c.toNat : Int)).toNat.toUInt8 = c := by simp
  rw [hb]
  have : ∀ l : List UInt8, (∀ b ∈ l, b.toNat < 128) → Lib.indexByte l c = -1 := by
    intro l hl
    induction l with
    | nil => rfl
    | cons b l ih =>
      have h1 := hl b (by simp)
      have hne : ¬ b = c := by rintro rfl; omega
      have := ih (fun x hx => hl x (by simp [hx]))
      simp [Lib.indexByte, hne, this]
  rw [this _ ht]

set_option maxHeartbeats 8000000 in
set_option maxRecDepth 1000000 in
/-- strings.IndexRune(" \t,[]", r) at a rune above 127: none. -/
theorem irune_high (r : Int) (w : World) (h1 : 128 ≤ r) (h2 : r ≤ 2147483647) :
    Calls Try.prog 52 #[.string sepB, .int .i32 r] w fun e w' => e = .returned (.int .i64 (-1)) ∧ Below w.heap.size w w' := by
  have hr0 : (0 : Int) ≤ r := by omega
  have hr1 : ¬ r < 128 := by omega
  by_cases he : r = 65533
  · have HB := Lib.hid (fun i : Nat => (Below.refl w.heap.size w).alloc (Nat.le_refl _) (.stringIter sepB i))
    have heb : (r == 65533) = true := beq_iff_eq.2 he
    clear he
    have HS := Lib.hid sep_at
    have hsz : sepB.size = 5 := rfl
    generalize sepB = s at *
    go_enter Try.func52, Try.ntmps52
    go_wp2_with fail
    go_loopg [5, 6] 5 (fun g _ _ wx => ∃ i : Nat, i + g = 5 ∧ wx = w.iter s i)
    case atStart => exact ⟨0, by omega, rfl⟩
    case round =>
      obtain ⟨i, hig, rfl⟩ := hrel
      cases gk with
      | zero =>
        obtain rfl : i = 5 := by omega
        have hnx := run_next_end (P := Try.prog) w s 5
        go_wp2_with fail
        go_ret
        exact ⟨rfl, HB.out 5⟩
      | succ g =>
        have hi : i < s.size := by omega
        obtain ⟨hx128, hxe⟩ := HS.out i hi
        obtain ⟨x, hx⟩ : ∃ x : UInt8, s[i]'hi = x := ⟨_, rfl⟩
        have hnx := fun ty => run_next_ascii (P := Try.prog) w s i ty hi hx128
        rw [hx] at hnx hx128 hxe
        have hxe2 : ((x.toNat : Int) == 65533) = false := beq_eq_false_iff_ne.2 hxe
        clear hxe hx
        go_wp2_with fail
        go_roundg g
        case measure => omega
        case rel => exact ⟨i + 1, by omega, rfl⟩
  · have heb : (r == 65533) = false := beq_eq_false_iff_ne.2 he
    clear he
    by_cases hv : (55296 ≤ r ∧ r ≤ 57343) ∨ 1114111 < r
    · have hvr : ∀ w1 : World, Calls Try.prog 66 #[.int .i32 r] w1 fun e w' => e = .returned (.bool false) ∧ w1 = w' := fun w1 => by
        have g1 : ¬ r < 55296 := by omega
        by_cases g2 : 57343 < r
        · have g3 : ¬ r ≤ 1114111 := by omega
          go_enter Try.func66, Try.ntmps66
          go_wp2_with fail
          go_ret
          exact ⟨rfl, rfl⟩
        · go_enter Try.func66, Try.ntmps66
          go_wp2_with fail
          go_ret
          exact ⟨rfl, rfl⟩
      have HV := Lib.hid hvr
      have hsz : sepB.size = 5 := rfl
      generalize sepB = s at *
      clear hvr hv
      go_enter Try.func52, Try.ntmps52
      go_wp2_with fail
      refine (HV.out _).mono ?_
      rintro e w' ⟨rfl, rfl⟩
      go_wp2_with fail
      go_ret
      exact ⟨rfl, Below.refl _ _⟩
    · have hvr : ∀ w1 : World, Calls Try.prog 66 #[.int .i32 r] w1 fun e w' => e = .returned (.bool true) ∧ w1 = w' := fun w1 => by
        by_cases g1 : r < 55296
        · go_enter Try.func66, Try.ntmps66
          go_wp2_with fail
          go_ret
          exact ⟨rfl, rfl⟩
        · have g2 : 57343 < r := by omega
          have g3 : r ≤ 1114111 := by omega
          go_enter Try.func66, Try.ntmps66
          go_wp2_with fail
          go_ret
          exact ⟨rfl, rfl⟩
      have HV := Lib.hid hvr
      have hval : Utf8.valid r = true := by rw [validRune_eq]; unfold validRune; exact decide_eq_true (by omega)
      obtain ⟨q1, q2, q3⟩ := encode_facts r hval h1
      obtain ⟨E, hE⟩ : ∃ E, E = Utf8.encode r := ⟨_, rfl⟩
      rw [← hE] at q1 q2 q3
      have hcv : ∀ wx : World, (convert 21 9 (.int .i32 r)).run Try.prog wx = .ok (.string E) wx := fun wx => by rw [hE]; exact run_convert_int_string (P := Try.prog) wx 21 9 .i32 r (by rw [Try.underlying21]; rfl) Try.underlying9
      clear hvr hv hE hval
      obtain ⟨c, hc⟩ : ∃ c, c = E[E.size - 1]'(by omega) := ⟨_, rfl⟩
      have hc1 : 128 ≤ c.toNat := by rw [hc]; exact q3 (by omega)
      have HIB := Lib.hid (fun (t : ByteArray) (w1 : World) => Any.strings_IndexByte { lays153 with } t (c.toNat : Int) w1)
      obtain ⟨n, hn⟩ : ∃ n, E.size = n + 1 := ⟨E.size - 1, by omega⟩
      have hnE : n < E.size := by omega
      have hns : n < sepB.size := by show n < 5; omega
      have hcE : c = E[n]'hnE := by rw [hc]; simp only [hn, Nat.add_sub_cancel]
      have hne : (((sepB[n]'hns).toNat : Int) != ((E[n]'hnE).toNat : Int)) = true := by
        have := (sep_at n hns).1
        rw [← hcE]
        exact bne_iff_ne.2 (by omega)
      have HIB := Lib.hid (fun (wx : World) => ixb_no (sepB.extract (n + 1) sepB.size) (E[n]'hnE) wx (fun b hb => sep_all b (mem_extract hb)) (by rw [← hcE]; exact hc1))
      have hlen : sepB.size = 5 := rfl
      have hn4 : n ≤ 3 := by omega
      have hn1 : 1 ≤ n := by omega
      have hlt : (n : Int) < (sepB.size : Int) := by omega
      have hlt2 : (n : Int) < (E.size : Int) := by omega
      have hn0 : (0 : Int) ≤ (n : Int) := by omega
      have HN := Lib.hid hn
      have hw1 : IntKind.i64.wrap ((E.size : Int) - 1) = n := by rw [hn]; rw [IntWalk.i64_in _ (by omega)]; omega
      have hp1 : IntKind.i64.wrap ((n : Int) + 1) = (n : Int) + 1 := IntWalk.i64_in _ (by omega)
      have hp2 : (0 : Int) ≤ (n : Int) + 1 := by omega
      have hp3 : ((n : Int) + 1).toNat = n + 1 := by omega
      have hp4 : (n : Int) + 1 ≤ (sepB.size : Int) := by omega
      have hw2 : wrap64 ((E.size : Int) - 1) = n := by unfold wrap64; first | exact hw1 | (rw [hn]; omega)
      have hidx : ∀ wx : World, (Instr.index 9 (.string E) (.int .i64 n)).run Try.prog wx = .ok (.int .u8 ((E[n]'hnE).toNat : Int)) wx := fun wx => by
        have e1 : (n : Int).toNat = n := by omega
        simp [Instr.index, run_underlying Try.underlying9, asIntOf, go_sem, e1, hnE, hn0]
      clear hc hcE hc1 q1 q2 q3 hlen hn
      go_enter Try.func52, Try.ntmps52
      go_wp2_with fail
      refine (HV.out _).mono ?_
      rintro e w' ⟨rfl, rfl⟩
      go_wp2_with fail
      go_step3
      go_wp2_with fail
      go_loop [9] (fun i => i = .int .i64 n) (fun _ => 0)
      case atStart => rfl
      case round =>
        subst hrel
        go_wp2_with fail
        go_step3
        go_wp2_with fail
        go_quiet (fail)
        go_wp2_with fail
        go_quiet ((go_at_call 65; (first | exact quiet_of (HIB.out _) | exact quiet_add (HIB.out _))))
        go_wp2_with fail
        rw [Exit.noGoto_ret]
        go_wp2_with fail
        rw [Exit.noGoto_ret]
        go_ret
        exact ⟨rfl, below_drewN (Below.refl _ _) _⟩
theorem asciiC : ∀ (j : Nat) b, sepB.data.toList[j]? = some b → b.toNat < 128 := fun j b hb => sep_all b (List.mem_of_getElem? hb)
set_option maxHeartbeats 8000000 in
set_option maxRecDepth 1000000 in
/-- A text of at most 8 bytes. -/
theorem ix_short (s : ByteArray) (w : World) (h8 : s.size ≤ 8) :
    Calls Try.prog 31 #[.string s, .string sepB] w fun e w' => e = .returned (.int .i64 (Lib.indexAny s.data.toList sepL)) ∧ Below w.heap.size w w' := by
  have hemp : sepB.toList.isEmpty = false := by kernel_rfl
  have hn1 : ((sepB.size : Int) == 1) = false := rfl
  have h8z : decide ((8 : Int) < (s.size : Int)) = false := decide_eq_false (by omega)
  have HC := Lib.hid (fun (r : Int) (w1 : World) h0 h1 => Any.strings_IndexRune_ascii (P := Try.prog) { lays153 with } sepB r w1 h0 h1)
  have HH := Lib.hid (fun (r : Int) (w1 : World) h0 h1 => irune_high r w1 h0 h1)
  have HU := Lib.hid (fun (w1 : World) => Any.strings_shouldUseASCIISet (P := Try.prog) { lays153 with } (s.size : Int) w1)
  have HCI := Lib.hid (fun x => Lib.contains_iff_indexByte sepB.data.toList x)
  go_enter Try.func31, Try.ntmps31
  go_wp2_with fail
  refine (HU.out _).mono ?_
  rintro e w' ⟨rfl, hw⟩
  rw [hw, h8z]
  clear hw
  go_wp2_with fail
  go_loopg [9, 10] s.size (fun g _ _ wx => ∃ i : Nat, i + g = s.size ∧ wx.heap[w.heap.size]? = some (.stringIter s i) ∧ Below w.heap.size w wx ∧ Lib.NoAny s.data.toList sepL i)
  case atStart => exact ⟨0, by omega, World.iter_heap w s 0, (Below.refl _ _).alloc (Nat.le_refl _) _, Lib.NoAny.zero _ _⟩
  case round =>
    obtain ⟨i, hig, hit, hbw, hno⟩ := hrel
    have HN := Lib.hid hno
    have HB := Lib.hid hbw
    have HT := Lib.hid hit
    clear hno hbw
    have hsz : w.heap.size < wr.heap.size := (Array.getElem?_eq_some_iff.1 hit).1
    by_cases hi : i < s.size
    · obtain ⟨x, hx⟩ : ∃ x : UInt8, s[i]'hi = x := ⟨_, rfl⟩
      have hxl : s.data.toList[i]? = some x := by rw [← hx]; exact Lib.data_getElem? s i hi
      by_cases ha : x.toNat < 128
      · have hnx : ∀ ty, (Instr.next (.pointer (some ⟨w.heap.size, 0, none⟩)) true ty).run Try.prog wr = _ := fun ty => Lib.run_next_ascii_at wr w.heap.size s i ty hit hi (by rw [hx]; exact ha)
        rw [hx] at hnx
        have HT2 := Lib.hid (Lib.iterAt_heap wr w.heap.size s i (i + 1) hit)
        have HB2 := Lib.hid (Lib.below_iterAt HB.out (Nat.le_refl w.heap.size) s (i + 1))
        have HXL := Lib.hid hxl
        have hcon := HCI.out x
        have hback : ((x.toNat : Int)).toNat.toUInt8 = x := by simp
        have hx0 : (0 : Int) ≤ x.toNat := by omega
        have hx1 : (x.toNat : Int) < 128 := by omega
        clear hx hxl hit HT HB
        cases hin : sepB.data.toList.contains x
        · rw [hin] at hcon
          have hlt : ¬ ((0 : Int) ≤ Lib.indexByte sepB.data.toList x) := of_decide_eq_false hcon.symm
          have HIN := Lib.hid (show sepL.contains x = false from hin)
          clear hcon hin
          go_wp2_with fail
          refine (HC.out _ _ hx0 hx1).mono ?_
          rintro e w' ⟨rfl, hw⟩
          rw [hw, hback]
          clear hw hback
          go_wp2_with fail
          go_roundg (s.size - (i + 1))
          case measure => omega
          case rel => exact ⟨i + 1, by omega, HT2.out, HB2.out, HN.out.succ HXL.out HIN.out⟩
        · rw [hin] at hcon
          have hge : (0 : Int) ≤ Lib.indexByte sepB.data.toList x := of_decide_eq_true hcon.symm
          have HIN := Lib.hid (show sepL.contains x = true from hin)
          clear hcon hin
          go_wp2_with fail
          refine (HC.out _ _ hx0 hx1).mono ?_
          rintro e w' ⟨rfl, hw⟩
          rw [hw, hback]
          clear hw hback
          go_wp2_with fail
          go_ret
          exact ⟨by rw [Lib.indexAny_hit HN.out HXL.out HIN.out]; rfl, HB2.out⟩
      · have hnx : ∀ ty, (Instr.next (.pointer (some ⟨w.heap.size, 0, none⟩)) true ty).run Try.prog wr = _ := fun ty => Lib.run_next_any_at wr w.heap.size s i ty hit hi
        have ha2 : 128 ≤ (s[i]'hi).toNat := by rw [hx]; omega
        obtain ⟨d1, d2⟩ := decode_high s i hi ha2
        have d3 := decode_le s i
        have HP := Lib.hid (noAny_past hi ha2 HN.out)
        have hp := (decode_past s i hi ha2).1
        have HT2 := Lib.hid (fun j => Lib.iterAt_heap wr w.heap.size s i j hit)
        have HB2 := Lib.hid (fun j => Lib.below_iterAt HB.out (Nat.le_refl w.heap.size) s j)
        generalize Utf8.decode s i = D at *
        obtain ⟨r, q⟩ := D
        simp only at d1 d2 d3 hp hnx
        have hr1 : (128 : Int) ≤ (r : Int) := by omega
        have hr2 : (r : Int) ≤ 2147483647 := by omega
        clear hx hxl hit HT HB ha2 d1 d3
        go_wp2_with fail
        refine (HH.out _ _ hr1 hr2).mono ?_
        rintro e w' ⟨rfl, hb⟩
        have HB3 := Lib.hid hb
        clear hb
        go_wp2_with fail
        go_roundg (s.size - (i + q))
        case measure => omega
        case rel => exact ⟨i + q, by omega, (HB3.out.block _ (Array.getElem?_eq_some_iff.1 (HT2.out (i + q))).1).trans (HT2.out _), (HB2.out _).trans (HB3.out.mono (HB2.out _).size), HP.out⟩
    · obtain rfl : i = s.size := by omega
      have hnx : ∀ ty, (Instr.next (.pointer (some ⟨w.heap.size, 0, none⟩)) true ty).run Try.prog wr = _ := fun ty => Lib.run_next_end_at wr w.heap.size s s.size ty hit (by omega)
      clear hit
      go_wp2_with fail
      go_ret
      exact ⟨by rw [Lib.indexAny_none (by rw [← Lib.size_eq]; exact HN.out)]; rfl, HB.out⟩
/-- Where a text has the first byte that parts words; -1: none. -/
theorem ix_any (s : ByteArray) (w : World) (hs : s.size < 4294967281) :
    Calls Try.prog 31 #[.string s, .string sepB] w fun e w' => e = .returned (.int .i64 (Lib.indexAny s.data.toList sepL)) ∧ Below w.heap.size w w' := by
  by_cases h8 : s.size ≤ 8
  · exact ix_short s w h8
  · refine (Any.strings_IndexAny_long (P := Try.prog) lays153 (zero_of_info set153).1 (zero_of_info set153).2 s sepB w (by decide) (by omega) hs (by decide) asciiC).mono ?_
    rintro e w' ⟨rfl, rfl⟩
    exact ⟨rfl, ((Below.refl _ _).alloc (Nat.le_refl _) _).alloc (by simp) _⟩
end Go.Proofs.Ytlhkjjfdmglabaa
