/- The reader of a text's parts: may, number, reg, count, branch, place. -/
import Derived.Test.YtmnojnopejhebaaGreatMgab
import Derived.Test.YtmnojnopejhebaaGreatMgac
import Derived.Test.YtmnojnopejhebaaGreatMgag
import Derived.Test.YtmnojnopejhebaaGreatMgam
import Derived.Laws.Runes
import Derived.Lib.OthersKept
import Derived.Outline
namespace Go.Proofs.YtmnojnopejhebaaGreat
set_option linter.unusedVariables false
set_option linter.unusedSimpArgs false
set_option maxRecDepth 100000
set_option maxHeartbeats 25600000
section
open Go.RowKit Go.Shelf
def sepL : List UInt8 := [32, 9, 44, 91, 93]
def sepB : ByteArray := ⟨#[32, 9, 44, 91, 93]⟩
theorem p0r (s : ByteArray) (i : Nat) (h : i < s.size) (ha : 128 ≤ (s[i]'h).toNat) : i + (Utf8.decode s i).2 ≤ s.size ∧ ∀ k, i ≤ k → k < i + (Utf8.decode s i).2 → 128 ≤ (s.get! k).toNat := by
 have hn : ¬ (s[i]'h).toNat < 128 := by omega
 have h0 : 128 ≤ (s.get! i).toNat := by
  have := get_at s i h
  rw [Nat.add_zero] at this
  rw [this]; exact ha
 simp only [Utf8.decode, get_at s i h, hn, if_false]
 have one : i + 1 ≤ s.size ∧ ∀ k, i ≤ k → k < i + 1 → 128 ≤ (s.get! k).toNat := ⟨h, fun k h1 h2 => by
  obtain rfl : k = i := by omega
  exact h0⟩
 split
 ·rename_i h1
  simp only [Bool.and_eq_true, decide_eq_true_eq, beq_iff_eq] at h1
  split
  ·refine ⟨by simp only; omega, fun k h3 h4 => ?_⟩
   simp only at h4
   by_cases e : k = i
   ·subst e; exact h0
   ·obtain rfl : k = i + 1 := by omega
    omega
  ·exact one
 ·split
  ·rename_i h1
   simp only [Bool.and_eq_true, decide_eq_true_eq, beq_iff_eq] at h1
   split
   ·refine ⟨by simp only; omega, fun k h3 h4 => ?_⟩
    simp only at h4
    by_cases e : k = i
    ·subst e; exact h0
    ·by_cases e2 : k = i + 1
     ·subst e2; omega
     ·obtain rfl : k = i + 2 := by omega
      omega
   ·exact one
  ·split
   ·rename_i h1
    simp only [Bool.and_eq_true, decide_eq_true_eq, beq_iff_eq] at h1
    split
    ·refine ⟨by simp only; omega, fun k h3 h4 => ?_⟩
     simp only at h4
     by_cases e : k = i
     ·subst e; exact h0
     ·by_cases e2 : k = i + 1
      ·subst e2; omega
      ·by_cases e3 : k = i + 2
       ·subst e3; omega
       ·obtain rfl : k = i + 3 := by omega
        omega
    ·exact one
   ·exact one
theorem a1d {s : ByteArray} {i : Nat} (h : i < s.size) (ha : 128 ≤ (s[i]'h).toNat) (hno : Lib.NoAny s.data.toList sepL i) : Lib.NoAny s.data.toList sepL (i + (Utf8.decode s i).2) := by
 obtain ⟨h1, h2⟩ := p0r s i h ha
 intro j b hj hb
 by_cases hji : j < i
 ·exact hno j b hji hb
 ·have h3 := h2 j (by omega) hj
  have hjs : j < s.size := by omega
  have e : s.get! j = b := by
   have := get_at s j hjs
   rw [Nat.add_zero] at this
   rw [this]
   have h4 := Lib.data_getElem? s j hjs
   rw [hb] at h4
   injection h4 with h4
   exact h4.symm
  rw [e] at h3
  have : ∀ c : UInt8, 128 ≤ c.toNat → sepL.contains c = false := by
   intro c hc
   unfold sepL
   rw [List.contains_eq_any_beq]
   simp only [List.any_cons, List.any_nil, Bool.or_false, Bool.or_eq_false_iff, beq_eq_false_iff_ne, ne_eq]
   refine ⟨?_, ?_, ?_, ?_, ?_⟩ <;> (rintro rfl; simp at hc)
  exact this b h3
theorem l1l : ∀ i (h : i < sepB.size), (sepB[i]'h).toNat < 128 ∧ ((sepB[i]'h).toNat : Int) ≠ 65533 := by decide
theorem c1t : ∀ b ∈ sepB.data.toList, b.toNat < 128 := by decide
theorem ixb_no (t : ByteArray) (c : UInt8) (w : World) (ht : ∀ b ∈ t.data.toList, b.toNat < 128) (hc : 128 ≤ c.toNat) :
  Calls Tryz.prog 185 #[.string t, .int .u8 c.toNat] w fun e w' => e = .returned (.int .i64 (-1)) ∧ ∃ m, w' = w.drewN m := by
 refine (Any.strings_IndexByte (P := Tryz.prog) { p0g with } t (c.toNat : Int) w).mono ?_
 rintro e w' ⟨rfl, rfl⟩
 refine ⟨?_, 0, rfl⟩
 have hb : ((c.toNat : Int)).toNat.toUInt8 = c := by simp
 rw [hb]
 have : ∀ l : List UInt8, (∀ b ∈ l, b.toNat < 128) → Lib.indexByte l c = -1 := by
  intro l hl
  induction l with
  | nil => rfl
  | cons b l ih =>
   have h1 := hl b (by simp)
   have hne : ¬ b = c := by rintro rfl; omega
   have := ih (fun x hx => hl x (by simp [hx]))
   simp [Lib.indexByte, hne, this]
 rw [this _ ht]
set_option maxRecDepth 1000000 in
theorem a1h (r : Int) (w : World) (h1 : 128 ≤ r) (h2 : r ≤ 2147483647) :
  Calls Tryz.prog 173 #[.string sepB, .int .i32 r] w fun e w' => e = .returned (.int .i64 (-1)) ∧ Below w.heap.size w w' := by
 have hr0 : (0 : Int) ≤ r := by omega
 have hr1 : ¬ r < 128 := by omega
 by_cases he : r = 65533
 ·have HB := h_ (fun i : Nat => (Below.refl w.heap.size w).alloc (Nat.le_refl _) (.stringIter sepB i))
  have heb : (r == 65533) = true := beq_iff_eq.2 he
  clear he
  have HS := h_ l1l
  have hsz : sepB.size = 5 := rfl
  generalize sepB = s at *
  go_enter Tryz.func173, Tryz.ntmps173
  go_wp2_with fail
  go_loopg [5, 6] 5 (fun g _ _ wx => ∃ i : Nat, i + g = 5 ∧ wx = w.iter s i)
  case atStart => exact ⟨0, by omega, rfl⟩
  case round =>
   obtain ⟨i, hig, rfl⟩ := hrel
   cases gk with
   | zero =>
    obtain rfl : i = 5 := by omega
    have hnx := run_next_end (P := Tryz.prog) w s 5
    go_wp2_with fail
    go_ret
    exact ⟨rfl, HB.out 5⟩
   | succ g =>
    have hi : i < s.size := by omega
    obtain ⟨hx128, hxe⟩ := HS.out i hi
    obtain ⟨x, hx⟩ : ∃ x : UInt8, s[i]'hi = x := ⟨_, rfl⟩
    have hnx := fun ty => run_next_ascii (P := Tryz.prog) w s i ty hi hx128
    rw [hx] at hnx hx128 hxe
    have hxe2 : ((x.toNat : Int) == 65533) = false := beq_eq_false_iff_ne.2 hxe
    clear hxe hx
    go_wp2_with fail
    go_roundg g
    case measure => omega
    case rel => exact ⟨i + 1, by omega, rfl⟩
 ·have heb : (r == 65533) = false := beq_eq_false_iff_ne.2 he
  clear he
  by_cases hv : (55296 ≤ r ∧ r ≤ 57343) ∨ 1114111 < r
  ·have hvr : ∀ w1 : World, Calls Tryz.prog 186 #[.int .i32 r] w1 fun e w' => e = .returned (.bool false) ∧ w1 = w' := fun w1 => by
    have g1 : ¬ r < 55296 := by omega
    by_cases g2 : 57343 < r
    ·have g3 : ¬ r ≤ 1114111 := by omega
     go_enter Tryz.func186, Tryz.ntmps186
     go_wp2_with fail
     go_ret
     exact ⟨rfl, rfl⟩
    ·go_enter Tryz.func186, Tryz.ntmps186
     go_wp2_with fail
     go_ret
     exact ⟨rfl, rfl⟩
   have HV := h_ hvr
   have hsz : sepB.size = 5 := rfl
   generalize sepB = s at *
   clear hvr hv
   go_enter Tryz.func173, Tryz.ntmps173
   go_wp2_with fail
   refine (HV.out _).mono ?_
   rintro e w' ⟨rfl, rfl⟩
   go_wp2_with fail
   go_ret
   exact ⟨rfl, Below.refl _ _⟩
  ·have hvr : ∀ w1 : World, Calls Tryz.prog 186 #[.int .i32 r] w1 fun e w' => e = .returned (.bool true) ∧ w1 = w' := fun w1 => by
    by_cases g1 : r < 55296
    ·go_enter Tryz.func186, Tryz.ntmps186
     go_wp2_with fail
     go_ret
     exact ⟨rfl, rfl⟩
    ·have g2 : 57343 < r := by omega
     have g3 : r ≤ 1114111 := by omega
     go_enter Tryz.func186, Tryz.ntmps186
     go_wp2_with fail
     go_ret
     exact ⟨rfl, rfl⟩
   have HV := h_ hvr
   have hval : Utf8.valid r = true := by rw [validRune_eq]; unfold validRune; exact decide_eq_true (by omega)
   obtain ⟨q1, q2, q3⟩ := encode_facts r hval h1
   obtain ⟨E, hE⟩ : ∃ E, E = Utf8.encode r := ⟨_, rfl⟩
   rw [← hE] at q1 q2 q3
   have hcv : ∀ wx : World, (convert 21 9 (.int .i32 r)).run Tryz.prog wx = .ok (.string E) wx := fun wx => by rw [hE]; exact run_convert_int_string (P := Tryz.prog) wx 21 9 .i32 r (by rw [Tryz.underlying21]; rfl) Tryz.underlying9
   clear hvr hv hE hval
   obtain ⟨c, hc⟩ : ∃ c, c = E[E.size - 1]'(by omega) := ⟨_, rfl⟩
   have hc1 : 128 ≤ c.toNat := by rw [hc]; exact q3 (by omega)
   have HIB := h_ (fun (t : ByteArray) (w1 : World) => Any.strings_IndexByte { p0g with } t (c.toNat : Int) w1)
   obtain ⟨n, hn⟩ : ∃ n, E.size = n + 1 := ⟨E.size - 1, by omega⟩
   have hnE : n < E.size := by omega
   have hns : n < sepB.size := by show n < 5; omega
   have hcE : c = E[n]'hnE := by rw [hc]; simp only [hn, Nat.add_sub_cancel]
   have hne : (((sepB[n]'hns).toNat : Int) != ((E[n]'hnE).toNat : Int)) = true := by
    have := (l1l n hns).1
    rw [← hcE]
    exact bne_iff_ne.2 (by omega)
   have HIB := h_ (fun (wx : World) => ixb_no (sepB.extract (n + 1) sepB.size) (E[n]'hnE) wx (fun b hb => c1t b (mem_extract hb)) (by rw [← hcE]; exact hc1))
   have hlen : sepB.size = 5 := rfl
   have hn4 : n ≤ 3 := by omega
   have hn1 : 1 ≤ n := by omega
   have hlt : (n : Int) < (sepB.size : Int) := by omega
   have hlt2 : (n : Int) < (E.size : Int) := by omega
   have hn0 : (0 : Int) ≤ (n : Int) := by omega
   have HN := h_ hn
   have hw1 : IntKind.i64.wrap ((E.size : Int) - 1) = n := by rw [hn]; rw [IntWalk.i64_in _ (by omega)]; omega
   have hp1 : IntKind.i64.wrap ((n : Int) + 1) = (n : Int) + 1 := IntWalk.i64_in _ (by omega)
   have hp2 : (0 : Int) ≤ (n : Int) + 1 := by omega
   have hp3 : ((n : Int) + 1).toNat = n + 1 := by omega
   have hp4 : (n : Int) + 1 ≤ (sepB.size : Int) := by omega
   have hw2 : wrap64 ((E.size : Int) - 1) = n := by unfold wrap64; first | exact hw1 | (rw [hn]; omega)
   have hidx : ∀ wx : World, (Instr.index 9 (.string E) (.int .i64 n)).run Tryz.prog wx = .ok (.int .u8 ((E[n]'hnE).toNat : Int)) wx := fun wx => by
    have e1 : (n : Int).toNat = n := by omega
    simp [Instr.index, run_underlying Tryz.underlying9, asIntOf, go_sem, e1, hnE, hn0]
   clear hc hcE hc1 q1 q2 q3 hlen hn
   go_enter Tryz.func173, Tryz.ntmps173
   go_wp2_with fail
   refine (HV.out _).mono ?_
   rintro e w' ⟨rfl, rfl⟩
   go_wp2_with fail
   go_step3
   go_wp2_with fail
   go_loop [9] (fun i => i = .int .i64 n) (fun _ => 0)
   case atStart => rfl
   case round =>
    subst hrel
    go_wp2_with fail
    go_step3
    go_wp2_with fail
    go_quiet (fail)
    go_wp2_with fail
    go_quiet ((go_at_call 185; (first | exact quiet_of (HIB.out _) | exact d1x (HIB.out _))))
    go_wp2_with fail
    rw [Exit.noGoto_ret]
    go_wp2_with fail
    rw [Exit.noGoto_ret]
    go_ret
    exact ⟨rfl, bd_ (Below.refl _ _) _⟩
theorem asciiC : ∀ (j : Nat) b, sepB.data.toList[j]? = some b → b.toNat < 128 := fun j b hb => c1t b (List.mem_of_getElem? hb)
set_option maxRecDepth 1000000 in
theorem j1n (s : ByteArray) (w : World) (h8 : s.size ≤ 8) :
  Calls Tryz.prog 156 #[.string s, .string sepB] w fun e w' => e = .returned (.int .i64 (Lib.indexAny s.data.toList sepL)) ∧ Below w.heap.size w w' := by
 have hemp : sepB.toList.isEmpty = false := by kernel_rfl
 have hn1 : ((sepB.size : Int) == 1) = false := rfl
 have h8z : decide ((8 : Int) < (s.size : Int)) = false := decide_eq_false (by omega)
 have HC := h_ (fun (r : Int) (w1 : World) h0 h1 => Any.strings_IndexRune_ascii (P := Tryz.prog) { p0g with } sepB r w1 h0 h1)
 have HH := h_ (fun (r : Int) (w1 : World) h0 h1 => a1h r w1 h0 h1)
 have HU := h_ (fun (w1 : World) => Any.strings_shouldUseASCIISet (P := Tryz.prog) { p0g with } (s.size : Int) w1)
 have HCI := h_ (fun x => Lib.contains_iff_indexByte sepB.data.toList x)
 go_enter Tryz.func156, Tryz.ntmps156
 go_wp2_with fail
 refine (HU.out _).mono ?_
 rintro e w' ⟨rfl, hw⟩
 rw [hw, h8z]
 clear hw
 go_wp2_with fail
 go_loopg [9, 10] s.size (fun g _ _ wx => ∃ i : Nat, i + g = s.size ∧ wx.heap[w.heap.size]? = some (.stringIter s i) ∧ Below w.heap.size w wx ∧ Lib.NoAny s.data.toList sepL i)
 case atStart => exact ⟨0, by omega, World.iter_heap w s 0, (Below.refl _ _).alloc (Nat.le_refl _) _, Lib.NoAny.zero _ _⟩
 case round =>
  obtain ⟨i, hig, hit, hbw, hno⟩ := hrel
  have HN := h_ hno
  have HB := h_ hbw
  have HT := h_ hit
  clear hno hbw
  have hsz : w.heap.size < wr.heap.size := (Array.getElem?_eq_some_iff.1 hit).1
  by_cases hi : i < s.size
  ·obtain ⟨x, hx⟩ : ∃ x : UInt8, s[i]'hi = x := ⟨_, rfl⟩
   have hxl : s.data.toList[i]? = some x := by rw [← hx]; exact Lib.data_getElem? s i hi
   by_cases ha : x.toNat < 128
   ·have hnx : ∀ ty, (Instr.next (.pointer (some ⟨w.heap.size, 0, none⟩)) true ty).run Tryz.prog wr = _ := fun ty => Lib.run_next_ascii_at wr w.heap.size s i ty hit hi (by rw [hx]; exact ha)
    rw [hx] at hnx
    have HT2 := h_ (Lib.iterAt_heap wr w.heap.size s i (i + 1) hit)
    have HB2 := h_ (Lib.below_iterAt HB.out (Nat.le_refl w.heap.size) s (i + 1))
    have HXL := h_ hxl
    have hcon := HCI.out x
    have hback : ((x.toNat : Int)).toNat.toUInt8 = x := by simp
    have hx0 : (0 : Int) ≤ x.toNat := by omega
    have hx1 : (x.toNat : Int) < 128 := by omega
    clear hx hxl hit HT HB
    cases hin : sepB.data.toList.contains x
    ·rw [hin] at hcon
     have hlt : ¬ ((0 : Int) ≤ Lib.indexByte sepB.data.toList x) := of_decide_eq_false hcon.symm
     have HIN := h_ (show sepL.contains x = false from hin)
     clear hcon hin
     go_wp2_with fail
     refine (HC.out _ _ hx0 hx1).mono ?_
     rintro e w' ⟨rfl, hw⟩
     rw [hw, hback]
     clear hw hback
     go_wp2_with fail
     go_roundg (s.size - (i + 1))
     case measure => omega
     case rel => exact ⟨i + 1, by omega, HT2.out, HB2.out, HN.out.succ HXL.out HIN.out⟩
    ·rw [hin] at hcon
     have hge : (0 : Int) ≤ Lib.indexByte sepB.data.toList x := of_decide_eq_true hcon.symm
     have HIN := h_ (show sepL.contains x = true from hin)
     clear hcon hin
     go_wp2_with fail
     refine (HC.out _ _ hx0 hx1).mono ?_
     rintro e w' ⟨rfl, hw⟩
     rw [hw, hback]
     clear hw hback
     go_wp2_with fail
     go_ret
     exact ⟨by rw [Lib.indexAny_hit HN.out HXL.out HIN.out]; rfl, HB2.out⟩
   ·have hnx : ∀ ty, (Instr.next (.pointer (some ⟨w.heap.size, 0, none⟩)) true ty).run Tryz.prog wr = _ := fun ty => Lib.run_next_any_at wr w.heap.size s i ty hit hi
    have ha2 : 128 ≤ (s[i]'hi).toNat := by rw [hx]; omega
    obtain ⟨d1, d2⟩ := decode_high s i hi ha2
    have d3 := decode_le s i
    have HP := h_ (a1d hi ha2 HN.out)
    have hp := (p0r s i hi ha2).1
    have HT2 := h_ (fun j => Lib.iterAt_heap wr w.heap.size s i j hit)
    have HB2 := h_ (fun j => Lib.below_iterAt HB.out (Nat.le_refl w.heap.size) s j)
    generalize Utf8.decode s i = D at *
    obtain ⟨r, q⟩ := D
    simp only at d1 d2 d3 hp hnx
    have hr1 : (128 : Int) ≤ (r : Int) := by omega
    have hr2 : (r : Int) ≤ 2147483647 := by omega
    clear hx hxl hit HT HB ha2 d1 d3
    go_wp2_with fail
    refine (HH.out _ _ hr1 hr2).mono ?_
    rintro e w' ⟨rfl, hb⟩
    have HB3 := h_ hb
    clear hb
    go_wp2_with fail
    go_roundg (s.size - (i + q))
    case measure => omega
    case rel => exact ⟨i + q, by omega, (HB3.out.block _ (Array.getElem?_eq_some_iff.1 (HT2.out (i + q))).1).trans (HT2.out _), (HB2.out _).trans (HB3.out.mono (HB2.out _).size), HP.out⟩
  ·obtain rfl : i = s.size := by omega
   have hnx : ∀ ty, (Instr.next (.pointer (some ⟨w.heap.size, 0, none⟩)) true ty).run Tryz.prog wr = _ := fun ty => Lib.run_next_end_at wr w.heap.size s s.size ty hit (by omega)
   clear hit
   go_wp2_with fail
   go_ret
   exact ⟨by rw [Lib.indexAny_none (by rw [← Lib.size_eq]; exact HN.out)]; rfl, HB.out⟩
theorem ix_any (s : ByteArray) (w : World) (hs : s.size < 4294967281) :
  Calls Tryz.prog 156 #[.string s, .string sepB] w fun e w' => e = .returned (.int .i64 (Lib.indexAny s.data.toList sepL)) ∧ Below w.heap.size w w' := by
 by_cases h8 : s.size ≤ 8
 ·exact j1n s w h8
 ·refine (Any.strings_IndexAny_long (P := Tryz.prog) p0g (zero_of_info l1k).1 (zero_of_info l1k).2 s sepB w (by decide) (by omega) hs (by decide) asciiC).mono ?_
  rintro e w' ⟨rfl, rfl⟩
  exact ⟨rfl, ((Below.refl _ _).alloc (Nat.le_refl _) _).alloc (by simp) _⟩
end
section
open Go.RowKit
def strV (w : List UInt8) : Value := .string (ba w)
theorem u0d : El Tryz.prog 116 9 (.string ⟨#[]⟩) 1 16 := ⟨Tryz.underlying116, by kernel_rfl⟩
theorem l1t (s : ByteArray) (i n : Nat) : s.extract i (i + n) = ba ((s.data.toList.drop i).take n) := by
 apply o1l
 rw [ByteArray.data_extract, Array.toList_extract]
 simp [List.extract]
theorem w0h {s : ByteArray} {i : Nat} {x : UInt8} (h : s.data.toList[i]? = some x) : s.extract i (i + 1) = ba [x] := by
 rw [l1t, l0p h]; rfl
theorem k1c (s : ByteArray) (i : Nat) : (s.extract i s.size).data.toList = s.data.toList.drop i := by
 rw [ByteArray.data_extract, Array.toList_extract]
 have : s.data.toList.length = s.size := by rw [← Lib.size_eq]
 simp only [List.extract, List.take_drop]
 rw [List.take_of_length_le (by simp; omega)]
def l0f (base : Nat) (w0 w : World) (v : Value) (l : List UInt8) (i : Nat) (acc : List (List UInt8)) : Prop :=
 acc ++ b0a (l.drop i) = b0a l ∧ w.ownsRow base 9 1 v acc.length (acc.map strV) ∧ Below base w0 w
theorem s0p {w0 w w' : World} {v : Value} {l : List UInt8} {i : Nat} {acc : List (List UInt8)} (h : l0f w0.heap.size w0 w v l i acc) (hb : Below w.heap.size w w') : l0f w0.heap.size w0 w' v l i acc := by
 obtain ⟨h1, h2, h3⟩ := h
 exact ⟨h1, own_below h2 hb, bt_ h3 hb⟩
def g1n (l : List UInt8) (w : World) (e : Ending) (w' : World) : Prop :=
 ∃ v, e = .returned v ∧ w'.ownsRow w.heap.size 9 1 v (b0a l).length ((b0a l).map strV) ∧ Below w.heap.size w w'
theorem m0k {w0 w w' : World} {v v' : Value} {l : List UInt8} {i : Nat} {c : UInt8} {acc : List (List UInt8)} (h : l0f w0.heap.size w0 w v l i acc) (hx : l[i]? = some c) (hb : h0f c = false) (ho : ownC c = true)
  (hv : w'.ownsRow w0.heap.size 9 1 v' (acc.length + 1) (acc.map strV ++ [.string (ba [c])])) (hB : Below w0.heap.size w w') : l0f w0.heap.size w0 w' v' l (i + 1) (acc ++ [[c]]) := by
 obtain ⟨h1, h2, h3⟩ := h
 exact ⟨b1w hx hb ho h1, by simpa [strV] using hv, h3.trans hB⟩
theorem v0b {w0 w w' : World} {v v' : Value} {l : List UInt8} {i : Nat} {c : UInt8} {acc : List (List UInt8)} (h : l0f w0.heap.size w0 w v l i acc) (hx : l[i]? = some c) (hw : wc c = true)
  (hv : w'.ownsRow w0.heap.size 9 1 v' (acc.length + 1) (acc.map strV ++ [.string (ba ((l.drop i).take (f0r (l.drop i))))])) (hB : Below w0.heap.size w w') : l0f w0.heap.size w0 w' v' l (i + f0r (l.drop i)) (acc ++ [(l.drop i).take (f0r (l.drop i))]) := by
 obtain ⟨h1, h2, h3⟩ := h
 exact ⟨y0p hx hw h1, by simpa [strV] using hv, h3.trans hB⟩
theorem n0e {w0 w : World} {v : Value} {l : List UInt8} {i : Nat} {c : UInt8} {acc : List (List UInt8)} (h : l0f w0.heap.size w0 w v l i acc) (hx : l[i]? = some c) (hb : h0f c = true) : l0f w0.heap.size w0 w v l (i + 1) acc :=
 ⟨v0a hx hb h.1, h.2⟩
theorem ceq (x : UInt8) (n : Nat) (hn : n < 256) : ((x.toNat : Int) == (n : Int)) = (x == UInt8.ofNat n) := by
 rw [Bool.eq_iff_iff]
 simp only [beq_iff_eq]
 constructor
 ·intro h
  have h2 : x.toNat = n := by omega
  apply UInt8.toNat_inj.1
  rw [h2]; simp; omega
 ·intro h
  rw [h]; simp; omega
theorem b1y (s : ByteArray) (w : World) (hs : s.size ≤ 1100000) :
  Calls Tryz.prog 146 #[.string s] w (g1n s.data.toList w) := by
 have HSZ := h_ (show s.data.toList.length = s.size by rw [← Lib.size_eq])
 have HIX := h_ (fun (i : Nat) (w1 : World) => ix_any (s.extract i s.size) w1 (by rw [ByteArray.size_extract]; omega))
 have HL := h_ (fun i => k1c s i)
 go_enter Tryz.func146, Tryz.ntmps146
 go_wp2_with fail
 go_loopw [3, 4] (fun v i wr => ∃ (k : Nat) (acc : List (List UInt8)), k ≤ s.size ∧ i = .int .i64 k ∧ l0f w.heap.size w wr v s.data.toList k acc) (fun _ i _ => s.size - (intOf i).toNat)
 case atStart => exact ⟨0, [], by omega, rfl, by simp, ⟨rfl, .inl ⟨rfl, rfl⟩⟩, Below.refl _ _⟩
 case round =>
  obtain ⟨k, acc, hk, rfl, hI⟩ := hrel
  have HI := h_ hI
  have hacc : acc.length ≤ s.size := by rw [← HSZ.out]; exact b1x hI.1
  clear hI
  by_cases hlt : k < s.size
  ·have hk0 : (0 : Int) ≤ k := by omega
   obtain ⟨x, hx⟩ : ∃ x : UInt8, s[k]'hlt = x := ⟨_, rfl⟩
   have HX := h_ (show s.data.toList[k]? = some x by rw [← hx]; exact Lib.data_getElem? s k hlt)
   have e1 := ceq x 32 (by decide)
   have e2 := ceq x 9 (by decide)
   have e3 := ceq x 44 (by decide)
   have e4 := ceq x 91 (by decide)
   have e5 := ceq x 93 (by decide)
   simp only [Int.ofNat_eq_natCast, Int.cast_ofNat_Int] at e1 e2 e3 e4 e5
   cases c0 : (x == UInt8.ofNat 32)
   ·cases c1 : (x == UInt8.ofNat 9)
    ·cases c2 : (x == UInt8.ofNat 44)
     ·cases c3 : (x == UInt8.ofNat 91)
      ·cases c4 : (x == UInt8.ofNat 93)
       ·have hwc : wc x = true := by unfold wc h0f ownC; simp only [UInt8.reduceOfNat] at c0 c1 c2 c3 c4; simp [c0, c1, c2, c3, c4]
        rw [c0] at e1; rw [c1] at e2; rw [c2] at e3; rw [c3] at e4; rw [c4] at e5
        clear c0 c1 c2 c3 c4
        obtain ⟨p, c, rfl, _⟩ := a0z HI.out.2.1
        have hsp := g1x (s.data.toList.drop k)
        have hsp1 : 1 ≤ f0r (s.data.toList.drop k) := by rw [l0p HX.out]; exact c1p hwc _
        have hix := q0t (s.data.toList.drop k)
        rw [List.length_drop, HSZ.out] at hsp hix
        have HXB := h_ (show s.extract k (k + f0r (s.data.toList.drop k)) = ba ((s.data.toList.drop k).take (f0r (s.data.toList.drop k))) from l1t s k _)
        have HIW := h_ (fun (w1 : World) (w' : World) v' (h : l0f w.heap.size w w1 (.slice p acc.length c) s.data.toList k acc) h1 h2 => v0b (v' := v') (w' := w') h HX.out hwc h1 h2)
        have HQ := h_ (HIX.out k)
        rw [HL.out k] at HQ
        generalize hn : f0r (s.data.toList.drop k) = n at *
        have hIA : Lib.indexAny (s.data.toList.drop k) sepL = Lib.indexAny (s.data.toList.drop k) sepC := rfl
        rw [hIA] at HQ
        clear hIA hn
        go_wp2_with fail
        refine (HQ.out _).mono ?_
        rintro e w2 ⟨rfl, hb⟩
        have HI2 := h_ (s0p HI.out hb)
        clear hb HI HQ
        have HO := h_ HI2.out.2.1
        have HZ := h_ HI2.out.2.2.size
        have HIN := h_ (fun v' w' => HIW.out _ w' v' HI2.out)
        rw [← HXB.out] at HIN
        clear HIW HXB
        rcases hix with ⟨h1, h2⟩ | ⟨h1, h2⟩
        ·rw [h1]
         obtain rfl : n = s.size - k := h2
         clear h1
         have hks : k + (s.size - k) = s.size := by omega
         rw [hks] at HIN
         clear hks
         go_wp2_with (at_builtin; refine n0u rfl _ _ 116 rfl w.heap.size 9 _ 1 16 u0d rfl (by decide) _ _ _ rfl HO.out [.string (s.extract k s.size)] rfl _ rfl rfl (by simp [Value.oneCell']) ?c1 ?c2 ?c3 ?_)
         case c1 => unfold maxLen; omega
         case c2 => omega
         case c3 => have := HZ.out; omega
         intro v' w' ho' _ hb'
         have HIF := h_ (HIN.out v' w' ho' hb')
         clear ho' hb' HO HIN HZ
         go_wp2_with fail
         go_roundw
         case rel => exact ⟨s.size, _, by omega, by go_num, HIF.out⟩
         case measure => simp [intOf] <;> omega
        ·rw [h1]
         clear h1
         go_wp2_with (at_builtin; refine n0u rfl _ _ 116 rfl w.heap.size 9 _ 1 16 u0d rfl (by decide) _ _ _ rfl HO.out [.string (s.extract k (k + n))] rfl _ rfl rfl (by simp [Value.oneCell']) ?c1 ?c2 ?c3 ?_)
         case c1 => unfold maxLen; omega
         case c2 => omega
         case c3 => have := HZ.out; omega
         intro v' w' ho' _ hb'
         have HIF := h_ (HIN.out v' w' ho' hb')
         clear ho' hb' HO HIN HZ
         go_wp2_with fail
         go_roundw
         case rel => exact ⟨k + n, _, by omega, by go_num, HIF.out⟩
         case measure => simp [intOf] <;> omega
       ·rw [c4] at e5
        rw [c0] at e1
        rw [c1] at e2
        rw [c2] at e3
        rw [c3] at e4
        obtain ⟨p, c, rfl, _⟩ := a0z HI.out.2.1
        have HO := h_ HI.out.2.1
        have HZ := h_ HI.out.2.2.size
        have HIN := h_ (fun v' w' h1 h2 => m0k (v' := v') (w' := w') HI.out HX.out (by unfold h0f; simp only [UInt8.reduceOfNat] at c0 c1; simp [c0, c1]) (by unfold ownC; simp only [UInt8.reduceOfNat] at c4; simp [c4]) h1 h2)
        rw [← w0h HX.out] at HIN
        clear c0 c1 c2 c3 c4 HI
        go_wp2_with (at_builtin; refine n0u rfl _ _ 116 rfl w.heap.size 9 _ 1 16 u0d rfl (by decide) _ _ _ rfl HO.out [.string (s.extract k (k + 1))] rfl _ rfl rfl (by simp [Value.oneCell']) ?c1 ?c2 ?c3 ?_)
        case c1 => unfold maxLen; omega
        case c2 => omega
        case c3 => have := HZ.out; omega
        intro v' w' ho' _ hb'
        have HIF := h_ (HIN.out v' w' ho' hb')
        clear ho' hb' HO HIN HZ
        go_wp2_with fail
        go_roundw
        case rel => exact ⟨k + 1, _, by omega, by go_num, HIF.out⟩
        case measure => simp [intOf] <;> omega
      ·rw [c3] at e4
       rw [c0] at e1
       rw [c1] at e2
       rw [c2] at e3
       obtain ⟨p, c, rfl, _⟩ := a0z HI.out.2.1
       have HO := h_ HI.out.2.1
       have HZ := h_ HI.out.2.2.size
       have HIN := h_ (fun v' w' h1 h2 => m0k (v' := v') (w' := w') HI.out HX.out (by unfold h0f; simp only [UInt8.reduceOfNat] at c0 c1; simp [c0, c1]) (by unfold ownC; simp only [UInt8.reduceOfNat] at c3; simp [c3]) h1 h2)
       rw [← w0h HX.out] at HIN
       clear c0 c1 c2 c3 HI
       go_wp2_with (at_builtin; refine n0u rfl _ _ 116 rfl w.heap.size 9 _ 1 16 u0d rfl (by decide) _ _ _ rfl HO.out [.string (s.extract k (k + 1))] rfl _ rfl rfl (by simp [Value.oneCell']) ?c1 ?c2 ?c3 ?_)
       case c1 => unfold maxLen; omega
       case c2 => omega
       case c3 => have := HZ.out; omega
       intro v' w' ho' _ hb'
       have HIF := h_ (HIN.out v' w' ho' hb')
       clear ho' hb' HO HIN HZ
       go_wp2_with fail
       go_roundw
       case rel => exact ⟨k + 1, _, by omega, by go_num, HIF.out⟩
       case measure => simp [intOf] <;> omega
     ·rw [c2] at e3
      rw [c0] at e1
      rw [c1] at e2
      obtain ⟨p, c, rfl, _⟩ := a0z HI.out.2.1
      have HO := h_ HI.out.2.1
      have HZ := h_ HI.out.2.2.size
      have HIN := h_ (fun v' w' h1 h2 => m0k (v' := v') (w' := w') HI.out HX.out (by unfold h0f; simp only [UInt8.reduceOfNat] at c0 c1; simp [c0, c1]) (by unfold ownC; simp only [UInt8.reduceOfNat] at c2; simp [c2]) h1 h2)
      rw [← w0h HX.out] at HIN
      clear c0 c1 c2 HI
      go_wp2_with (at_builtin; refine n0u rfl _ _ 116 rfl w.heap.size 9 _ 1 16 u0d rfl (by decide) _ _ _ rfl HO.out [.string (s.extract k (k + 1))] rfl _ rfl rfl (by simp [Value.oneCell']) ?c1 ?c2 ?c3 ?_)
      case c1 => unfold maxLen; omega
      case c2 => omega
      case c3 => have := HZ.out; omega
      intro v' w' ho' _ hb'
      have HIF := h_ (HIN.out v' w' ho' hb')
      clear ho' hb' HO HIN HZ
      go_wp2_with fail
      go_roundw
      case rel => exact ⟨k + 1, _, by omega, by go_num, HIF.out⟩
      case measure => simp [intOf] <;> omega
    ·rw [c1] at e2
     rw [c0] at e1
     have HB := h_ (n0e HI.out HX.out (by unfold h0f; simp only [UInt8.reduceOfNat] at c1; simp [c1]))
     clear c0 c1
     clear HI
     go_wp2_with fail
     go_roundw
     case rel => exact ⟨k + 1, acc, by omega, by go_num, HB.out⟩
     case measure => simp [intOf] <;> omega
   ·rw [c0] at e1
    have HB := h_ (n0e HI.out HX.out (by unfold h0f; simp only [UInt8.reduceOfNat] at c0; simp [c0]))
    clear c0
    clear HI
    go_wp2_with fail
    go_roundw
    case rel => exact ⟨k + 1, acc, by omega, by go_num, HB.out⟩
    case measure => simp [intOf] <;> omega
  ·obtain rfl : k = s.size := by omega
   have HF := h_ (show acc = b0a s.data.toList by have := HI.out.1; rw [← HSZ.out, List.drop_length] at this; simpa [b0a] using this)
   go_wp2_with fail
   go_ret
   exact ⟨_, rfl, by rw [← HF.out]; exact HI.out.2.1, HI.out.2.2⟩
end
section
open Go.RowKit
def ARd (w : World) (r G : Nat) (s : AS) : Prop :=
 ∃ p c, Blk w 192 r [.slice p s.1.length c, .bool s.2] ∧ Rds w 1 p s.1.length (s.1.map strV) ∧ s.1.length ≤ c ∧ c ≤ maxLen ∧ (∀ a, p = some a → a.block ≠ r) ∧ (∀ q ∈ s.1, q.length ≤ 1100000) ∧ (∀ a, p = some a → a.block < G) ∧ G ≤ w.heap.size
theorem ARd.lt {w : World} {r G : Nat} {s : AS} (h : ARd w r G s) : r < w.heap.size := by obtain ⟨p, c, h, _⟩ := h; exact h.lt
theorem ARd.below {w w' : World} {r G : Nat} {s : AS} (h : ARd w r G s) (hb : Below w.heap.size w w') : ARd w' r G s := by
 obtain ⟨p, c, h1, h2, h3, h4, h5, h6, h7, h8⟩ := h
 exact ⟨p, c, h1.below hb, h2.below hb, h3, h4, h5, h6, h7, Nat.le_trans h8 hb.size⟩
theorem ARd.dn {w : World} {r G : Nat} {s : AS} (h : ARd w r G s) (k : Nat) : ARd (w.drewN k) r G s := h
theorem ARd.set1 {w : World} {r G : Nat} {s : AS} (h : ARd w r G s) (b : Bool) : ARd (w.setCell ⟨r, 1, none⟩ (.bool b)) r G (s.1, b) := by
 obtain ⟨p, c, h1, h2, h3, h4, h5, h6, h7, h8⟩ := h
 exact ⟨p, c, by simpa using h1.set 1 (.bool b), h2.grownR (a0r w r 1 _) (fun a ha e => h5 a ha (by injection e)), h3, h4, h5, h6, h7, by simpa using h8⟩
theorem ARd.other {w : World} {r G : Nat} {s : AS} (h : ARd w r G s) {B : Nat} (hB : G ≤ B) (hr : r ≠ B) (j : Nat) (v : Value) : ARd (w.setCell ⟨B, j, none⟩ v) r G s := by
 obtain ⟨p, c, h1, h2, h3, h4, h5, h6, h7, h8⟩ := h
 exact ⟨p, c, h1.other (p := ⟨B, j, none⟩) hr v, h2.grownR (a0r w B j _) (fun a ha e => by injection e with e; have := h7 a ha; omega), h3, h4, h5, h6, h7, by simpa using h8⟩
theorem ARd.G_le {w : World} {r G : Nat} {s : AS} (h : ARd w r G s) : G ≤ w.heap.size := by obtain ⟨p, c, h1, h2, h3, h4, h5, h6, h7, h8⟩ := h; exact h8
def g0m {α : Type} (r G : Nat) (w : World) (V : α → Value) (x : α × AS) (e : Ending) (w' : World) : Prop := e = .returned (V x.1) ∧ ARd w' r G x.2 ∧ w.grownBy w' (some r)
theorem o0j {w : World} {r G g off c o' c' : Nat} {x : List UInt8} {ws : List (List UInt8)} {bad : Bool} (hB : Blk w 192 r [.slice (some ⟨g, off, none⟩) (ws.length + 1) c, .bool bad])
  (hR : Rds w 1 (some ⟨g, off, none⟩) (ws.length + 1) ((x :: ws).map strV)) (hgr : g ≠ r) (ho : 0 < ws.length → o' = off + 1) (hc : ws.length ≤ c') (hcm : c' ≤ maxLen) (hq : ∀ q ∈ x :: ws, q.length ≤ 1100000) (hgG : g < G) (hGw : G ≤ w.heap.size) :
  ARd (w.setCell ⟨r, 0, none⟩ (.slice (some ⟨g, o', none⟩) ws.length c')) r G (ws, bad) := by
 have h1 := hR.grownR (a0r w r 0 (.slice (some ⟨g, o', none⟩) ws.length c')) (fun a ha e => hgr (by cases ha; injection e))
 refine ⟨some ⟨g, o', none⟩, c', by simpa using hB.set 0 (.slice (some ⟨g, o', none⟩) ws.length c'), ⟨by simp, fun hn => ?_⟩, hc, hcm, fun a ha => by cases ha; exact hgr, fun q hq' => hq q (List.mem_cons_of_mem _ hq'), fun a ha => by cases ha; exact hgG, by simpa using hGw⟩
 obtain rfl := ho hn
 refine ⟨g, off + 1, rfl, fun j hj => ?_⟩
 obtain ⟨g', off', hp, hcell⟩ := h1.2 (by omega)
 cases hp
 have hj' : j < ws.length := by simpa using hj
 have := hcell (j + 1) (by omega)
 rw [show off + 1 + j = off + (j + 1) by omega, this]
 simp
theorem i0b {r G : Nat} {s : AS} (w : World) (h : ARd w r G s) :
  Calls Tryz.prog 157 #[.pointer (some ⟨r, 0, none⟩)] w (g0m r G w (fun x => .string (ba x)) (a0q s)) := by
 have HR := h_ h
 obtain ⟨ws, bad⟩ := s
 obtain ⟨p, c, hB, hRd, hlc, hcm, hne, hq, hqG, hGw⟩ := h
 have c0 := hB.cell 0
 have c1 := hB.cell 1
 have f0 := hB.free 0
 have f1 := hB.free 1
 simp only [gz_, gs_] at c0 c1
 cases ws with
 | nil =>
  have HX := h_ (show ARd (w.setCell ⟨r, 1, none⟩ (.bool true)) r G ([], true) from HR.out.set1 true)
  clear hB hRd HR hne hq hqG hGw
  go_enter Tryz.func157, Tryz.ntmps157
  go_wp2_with fail
  go_ret
  exact ⟨rfl, HX.out, a0r _ _ _ _⟩
 | cons x ws =>
  obtain ⟨g, off, u, rfl, hu, hc⟩ := hRd.at_ (j := 0) (by simp)
  obtain rfl : u = .string (ba x) := by simpa [strV] using hu.symm
  rw [Nat.add_zero] at hc
  simp only [List.length_cons] at c0 hlc
  clear hu
  have hgr : g ≠ r := hne _ rfl
  unfold maxLen at hcm
  by_cases h1 : c = 1
  ·subst h1
   obtain rfl : ws = [] := List.eq_nil_of_length_eq_zero (by omega)
   have HX := h_ (o0j (o' := off) (c' := 0) hB hRd hgr (by simp) (by simp) (by unfold maxLen; omega) hq (hqG _ rfl) hGw)
   clear hB hRd hne hq hqG hGw
   simp only [List.length_nil] at c0 hlc
   go_enter Tryz.func157, Tryz.ntmps157
   go_wp2_with fail
   go_ret
   exact ⟨rfl, HX.out, a0r _ _ _ _⟩
  ·have HX := h_ (o0j (o' := off + 1) (c' := c - 1) hB hRd hgr (by simp) (by omega) (by unfold maxLen; omega) hq (hqG _ rfl) hGw)
   clear hB hRd hne hq hqG hGw
   go_enter Tryz.func157, Tryz.ntmps157
   go_wp2_with fail
   go_ret
   exact ⟨rfl, HX.out, a0r _ _ _ _⟩
theorem d0o {r G : Nat} {s : AS} (w : World) (t : List UInt8) (h : ARd w r G s) :
  Calls Tryz.prog 163 #[.pointer (some ⟨r, 0, none⟩), .string (ba t)] w fun e w' => e = .returned (.tuple #[]) ∧ ARd w' r G (a0d s t) ∧ w.grownBy w' (some r) := by
 have HN := h_ (i0b w h)
 have HM := h_ (show a0d s t = badA (a0q s).2 (decide (¬ (a0q s).1 = t)) from rfl)
 generalize a0q s = y at *
 obtain ⟨x, s2⟩ := y
 by_cases hx : x = t
 ·subst hx
  clear h
  go_enter Tryz.func163, Tryz.ntmps163
  go_wp2_with fail
  refine (HN.out).mono ?_
  rintro e w2 ⟨rfl, hr, hg⟩
  have HR := h_ hr
  have HG := h_ hg
  clear hr hg HN
  go_wp2_with fail
  go_end0
  exact ⟨rfl, by rw [HM.out]; simpa [badA] using HR.out, HG.out⟩
 ·have hxb : ((ba x).toList == (ba t).toList) = false := l0r (fun e => hx (by have := congrArg (fun b => b.data.toList) e; simpa [n0c] using this))
  have HX := h_ hx
  clear h hx
  go_enter Tryz.func163, Tryz.ntmps163
  go_wp2_with fail
  refine (HN.out).mono ?_
  rintro e w2 ⟨rfl, hr, hg⟩
  have HR := h_ hr
  have HG := h_ hg
  have hrl := hr.lt
  obtain ⟨p, c, hB, _⟩ := hr
  have c1 := hB.cell 1
  have f1 := hB.free 1
  simp only [gz_, gs_] at c1
  clear hg HN hB
  go_wp2_with fail
  go_end0
  exact ⟨rfl, by rw [HM.out]; simp only [HX.out, badA, not_false_eq_true, decide_true, Bool.or_true]; exact HR.out.set1 true, a0a HG.out (a0r _ _ _ _)⟩
end
section
open Go.RowKit
theorem pre_eq (s p : ByteArray) (h : p.size ≤ s.size) : ((s.extract 0 p.size).toList == p.toList) = p.data.toList.isPrefixOf s.data.toList := by
 rw [e0v, e0v, Bool.eq_iff_iff, beq_iff_eq, List.isPrefixOf_iff_prefix, ByteArray.data_extract, Array.toList_extract]
 have hl : p.data.toList.length = p.size := by rw [← Lib.size_eq]
 simp only [List.extract, Nat.sub_zero, List.drop_zero]
 rw [← hl]
 exact ⟨fun e => by rw [← e]; exact List.take_prefix _ _, fun e => (List.prefix_iff_eq_take.1 e).symm⟩
theorem e1b (s p : ByteArray) (h : ¬ p.size ≤ s.size) : p.data.toList.isPrefixOf s.data.toList = false := by
 cases hh : p.data.toList.isPrefixOf s.data.toList with
 | false => rfl
 | true =>
  have := (List.isPrefixOf_iff_prefix.1 hh).length_le
  rw [← Lib.size_eq, ← Lib.size_eq] at this
  exact absurd this h
theorem c1q (s p : ByteArray) (w : World) :
  Calls Tryz.prog 189 #[.string s, .string p] w fun e w' => e = .returned (.bool (p.data.toList.isPrefixOf s.data.toList)) ∧ w = w' := by
 by_cases h : p.size ≤ s.size
 ·have he := pre_eq s p h
  have hle : (p.size : Int) ≤ s.size := by omega
  generalize p.data.toList.isPrefixOf s.data.toList = b at *
  go_enter Tryz.func189, Tryz.ntmps189
  go_wp2_with fail
  go_ret
  exact ⟨rfl, rfl⟩
 ·have he := e1b s p h
  have hle : ¬ (p.size : Int) ≤ s.size := by omega
  generalize p.data.toList.isPrefixOf s.data.toList = b at *
  subst he
  go_enter Tryz.func189, Tryz.ntmps189
  go_wp2_with fail
  go_ret
  exact ⟨rfl, rfl⟩
theorem j1u (s p : ByteArray) (w : World) :
  Calls Tryz.prog 180 #[.string s, .string p] w fun e w' => e = .returned (.bool (p.data.toList.isPrefixOf s.data.toList)) ∧ w = w' := by
 have HS := h_ (fun w1 => c1q s p w1)
 generalize p.data.toList.isPrefixOf s.data.toList = b at *
 go_enter Tryz.func180, Tryz.ntmps180
 go_wp2_with fail
 refine (HS.out _).mono ?_
 rintro e w' ⟨rfl, rfl⟩
 go_wp2_with fail
 go_ret
 exact ⟨rfl, rfl⟩
theorem o1c (s p : ByteArray) : (p.data.toList.isPrefixOf s.data.toList = true → cutA p.data.toList s.data.toList = ((s.extract p.size s.size).data.toList, true) ∧ p.size ≤ s.size) ∧ (p.data.toList.isPrefixOf s.data.toList = false → cutA p.data.toList s.data.toList = (s.data.toList, false)) := by
 have hl : p.data.toList.length = p.size := by rw [← Lib.size_eq]
 have hl2 : s.data.toList.length = s.size := by rw [← Lib.size_eq]
 refine ⟨fun h => ⟨?_, ?_⟩, fun h => by unfold cutA; rw [h]; rfl⟩
 ·unfold cutA
  rw [if_pos h, hl, ByteArray.data_extract, Array.toList_extract]
  simp only [List.extract, List.take_drop]
  rw [List.take_of_length_le (by omega)]
 ·have := (List.isPrefixOf_iff_prefix.1 h).length_le
  omega
theorem cut_ba (s p : ByteArray) (w : World) :
  Calls Tryz.prog 190 #[.string s, .string p] w fun e w' => e = .returned (.tuple #[.string (ba (cutA p.data.toList s.data.toList).1), .bool (cutA p.data.toList s.data.toList).2]) ∧ w = w' := by
 have HS := h_ (fun w1 => c1q s p w1)
 obtain ⟨h1, h2⟩ := o1c s p
 cases hb : p.data.toList.isPrefixOf s.data.toList with
 | true =>
  rw [hb] at HS
  obtain ⟨h3, h4⟩ := h1 hb
  have HC := h_ h3
  have hle : (p.size : Int) ≤ s.size := by omega
  clear h1 h2 hb h3
  go_enter Tryz.func190, Tryz.ntmps190
  go_wp2_with fail
  refine (HS.out _).mono ?_
  rintro e w' ⟨rfl, rfl⟩
  go_wp2_with fail
  go_ret2
  exact ⟨by rw [HC.out]; rfl, rfl⟩
 | false =>
  rw [hb] at HS
  have HC := h_ (h2 hb)
  clear h1 h2 hb
  go_enter Tryz.func190, Tryz.ntmps190
  go_wp2_with fail
  refine (HS.out _).mono ?_
  rintro e w' ⟨rfl, rfl⟩
  go_wp2_with fail
  go_ret2
  exact ⟨by rw [HC.out]; rfl, rfl⟩
theorem w0m (x p : List UInt8) (w : World) :
  Calls Tryz.prog 181 #[.string (ba x), .string (ba p)] w fun e w' => e = .returned (.tuple #[.string (ba (cutA p x).1), .bool (cutA p x).2]) ∧ w = w' := by
 have HS := h_ (fun w1 => cut_ba (ba x) (ba p) w1)
 simp only [n0c] at HS
 generalize cutA p x = c at *
 obtain ⟨c1, c2⟩ := c
 go_enter Tryz.func181, Tryz.ntmps181
 go_wp2_with fail
 refine (HS.out _).mono ?_
 rintro e w' ⟨rfl, rfl⟩
 go_wp2_with fail
 go_ret2
 exact ⟨rfl, rfl⟩
end
section
open Go.RowKit
def intV (n : Int) : Value := .int .i64 n
def e0n (b : Bool) : Value := .bool b
theorem ba_ne {x t : List UInt8} (h : ¬ x = t) : ((ba x).toList == (ba t).toList) = false := l0r (fun e => h (by have := congrArg (fun b => b.data.toList) e; simpa [n0c] using this))
theorem q0q {r G : Nat} {s : AS} {w : World} (h : ARd w r G s) : (a0q s).1.length ≤ 1100000 := by
 obtain ⟨p, c, _, _, _, _, _, hq, _⟩ := h
 obtain ⟨ws, b⟩ := s
 cases ws with
 | nil => simp [a0q]
 | cons x ws => exact hq x (by simp)
theorem s0e (p x : List UInt8) : (cutA p x).1.length ≤ x.length := by unfold cutA; split <;> simp
theorem ARd.bad {w : World} {r G : Nat} {s : AS} (h : ARd w r G s) (b : Bool) : ARd (w.setCell ⟨r, 1, none⟩ (.bool (s.2 || b))) r G (badA s b) := h.set1 _
theorem y0e {r G : Nat} {s : AS} (w : World) (t : List UInt8) (h : ARd w r G s) :
  Calls Tryz.prog 179 #[.pointer (some ⟨r, 0, none⟩), .string (ba t)] w (g0m r G w e0n (mayA s t)) := by
 have HR := h_ h
 obtain ⟨ws, bad⟩ := s
 obtain ⟨p, c, hB, hRd, hlc, hcm, hne, hq, hqG, hGw⟩ := h
 have c0 := hB.cell 0
 have c1 := hB.cell 1
 have f0 := hB.free 0
 have f1 := hB.free 1
 simp only [gz_, gs_] at c0 c1
 cases ws with
 | nil =>
  clear hB hRd hne hq hqG hGw
  simp only [List.length_nil] at c0
  go_enter Tryz.func179, Tryz.ntmps179
  go_wp2_with fail
  go_ret
  exact ⟨rfl, HR.out, a0b (Below.refl _ _)⟩
 | cons x ws =>
  obtain ⟨g, off, u, rfl, hu, hc⟩ := hRd.at_ (j := 0) (by simp)
  obtain rfl : u = .string (ba x) := by simpa [strV] using hu.symm
  rw [Nat.add_zero] at hc
  simp only [List.length_cons] at c0 hlc
  clear hu
  have hgr : g ≠ r := hne _ rfl
  unfold maxLen at hcm
  have hn1 : ((ws.length : Int) + 1 == 0) = false := beq_eq_false_iff_ne.2 (by omega)
  by_cases hx : x = t
  ·have HM := h_ (show mayA (x :: ws, bad) t = (true, (ws, bad)) by simp [mayA, hx])
   subst hx
   by_cases h1 : c = 1
   ·subst h1
    obtain rfl : ws = [] := List.eq_nil_of_length_eq_zero (by omega)
    have HX := h_ (o0j (o' := off) (c' := 0) hB hRd hgr (by simp) (by simp) (by unfold maxLen; omega) hq (hqG _ rfl) hGw)
    clear hB hRd hne hq hqG hGw
    simp only [List.length_nil] at c0 hlc
    go_enter Tryz.func179, Tryz.ntmps179
    go_wp2_with fail
    go_ret
    exact ⟨by rw [HM.out]; rfl, by rw [HM.out]; exact HX.out, a0r _ _ _ _⟩
   ·have HX := h_ (o0j (o' := off + 1) (c' := c - 1) hB hRd hgr (by simp) (by omega) (by unfold maxLen; omega) hq (hqG _ rfl) hGw)
    clear hB hRd hne hq hqG hGw
    go_enter Tryz.func179, Tryz.ntmps179
    go_wp2_with fail
    go_ret
    exact ⟨by rw [HM.out]; rfl, by rw [HM.out]; exact HX.out, a0r _ _ _ _⟩
  ·have HM := h_ (show mayA (x :: ws, bad) t = (false, (x :: ws, bad)) by simp [mayA, hx])
   have hxb := ba_ne hx
   clear hB hRd hne hq hqG hGw hx
   go_enter Tryz.func179, Tryz.ntmps179
   go_wp2_with fail
   go_ret
   exact ⟨by rw [HM.out]; rfl, by rw [HM.out]; exact HR.out, a0b (Below.refl _ _)⟩
theorem l0n {r G : Nat} {s : AS} (w : World) (x : List UInt8) (hx : x.length ≤ 1100000) (h : ARd w r G s) :
  Calls Tryz.prog 182 #[.pointer (some ⟨r, 0, none⟩), .string (ba x)] w (g0m r G w intV (e0h s x)) := by
 have HR := h_ h
 have HP := h_ (fun (w1 : World) => k0i (ba x) w1 (by unfold maxLen; rw [w0t]; omega))
 rw [n0c] at HP
 have HM := h_ (show e0h s x = if (b0h x).2 = 0 ∧ (b0h x).1 ≤ 1099511627776 then ((((b0h x).1 : Nat) : Int), s) else (0, badA s true) from rfl)
 generalize b0h x = v at *
 obtain ⟨v, e0⟩ := v
 have hrl := h.lt
 obtain ⟨p, cc, hB, _⟩ := h
 have c0 := hB.cell 0
 have c1 := hB.cell 1
 have f0 := hB.free 0
 have f1 := hB.free 1
 simp only [gz_, gs_] at c0 c1
 clear hB
 by_cases h0 : e0 = 0
 ·subst h0
  by_cases hv : v ≤ 1099511627776
  ·have hvi : ¬ (1099511627776 : Int) < v := by omega
   have HM2 := h_ (show e0h s x = (((v : Nat) : Int), s) by rw [HM.out]; simp [hv])
   have hvw : IntKind.i64.wrap (v : Int) = v := IntWalk.i64_in _ (by omega)
   go_enter Tryz.func182, Tryz.ntmps182
   go_wp2_with fail
   refine (HP.out _).mono ?_
   rintro e w2 ⟨rfl, k, rfl⟩
   go_wp2_with fail
   go_ret
   exact ⟨by rw [HM2.out]; rfl, by rw [HM2.out]; exact HR.out.dn _, a0b (bd_ (Below.refl _ _) _)⟩
  ·have hvi : (1099511627776 : Int) < v := by omega
   have HM2 := h_ (show e0h s x = (0, badA s true) by rw [HM.out]; simp [hv])
   go_enter Tryz.func182, Tryz.ntmps182
   go_wp2_with fail
   refine (HP.out _).mono ?_
   rintro e w2 ⟨rfl, k, rfl⟩
   go_wp2_with fail
   go_ret
   refine ⟨by rw [HM2.out]; rfl, ?_, a0a (a0b (bd_ (Below.refl _ _) _)) (a0r _ _ _ _)⟩
   rw [HM2.out]
   simpa [badA] using (HR.out.dn k).bad true
 ·have h0b : ((e0 : Int) != 0) = true := bne_iff_ne.2 (by omega)
  have HM2 := h_ (show e0h s x = (0, badA s true) by rw [HM.out]; simp [h0])
  clear h0
  go_enter Tryz.func182, Tryz.ntmps182
  go_wp2_with fail
  refine (HP.out _).mono ?_
  rintro e w2 ⟨rfl, k, rfl⟩
  go_wp2_with fail
  go_ret
  refine ⟨by rw [HM2.out]; rfl, ?_, a0a (a0b (bd_ (Below.refl _ _) _)) (a0r _ _ _ _)⟩
  rw [HM2.out]
  simpa [badA] using (HR.out.dn k).bad true
theorem e0r {r G : Nat} {s : AS} (w : World) (h : ARd w r G s) :
  Calls Tryz.prog 162 #[.pointer (some ⟨r, 0, none⟩)] w (g0m r G w intV (regA s)) := by
 have HN := h_ (i0b w h)
 have HM := h_ (show regA s = match regN (ba (a0q s).1) with | some j => (((j : Nat) : Int), (a0q s).2) | none => (0, badA (a0q s).2 true) from rfl)
 generalize a0q s = y at *
 obtain ⟨x, s2⟩ := y
 obtain ⟨ws, bad⟩ := s2
 have HP := h_ (fun (w1 : World) => d0k (ba x) w1)
 cases hx : regN (ba x) with
 | some j =>
  rw [hx] at HP
  have HM2 := h_ (show regA s = (((j : Nat) : Int), (ws, bad)) by rw [HM.out]; simp [hx])
  clear hx h
  go_enter Tryz.func162, Tryz.ntmps162
  go_wp2_with fail
  refine (HN.out).mono ?_
  rintro e w2 ⟨rfl, hr, hg⟩
  have HR := h_ hr
  have HG := h_ hg
  have hrl := hr.lt
  obtain ⟨p, cc, hB, _⟩ := hr
  have c0 := hB.cell 0
  have c1 := hB.cell 1
  have f0 := hB.free 0
  have f1 := hB.free 1
  simp only [gz_, gs_] at c0 c1
  clear hB
  clear hg HN
  go_wp2_with fail
  refine (HP.out _).mono ?_
  rintro e w3 ⟨rfl, k, rfl⟩
  simp only [n0q]
  have HB := h_ ((HR.out.dn k).bad false)
  cases bad
  all_goals
   go_wp2_with fail
   go_ret
   refine ⟨by rw [HM2.out]; rfl, by rw [HM2.out]; simpa [badA] using HB.out, a0a (a0a HG.out (a0b (bd_ (Below.refl _ _) _))) (a0r _ _ _ _)⟩
 | none =>
  rw [hx] at HP
  have HM2 := h_ (show regA s = (0, badA (ws, bad) true) by rw [HM.out]; simp [hx])
  clear hx h
  go_enter Tryz.func162, Tryz.ntmps162
  go_wp2_with fail
  refine (HN.out).mono ?_
  rintro e w2 ⟨rfl, hr, hg⟩
  have HR := h_ hr
  have HG := h_ hg
  have hrl := hr.lt
  obtain ⟨p, cc, hB, _⟩ := hr
  have c0 := hB.cell 0
  have c1 := hB.cell 1
  have f0 := hB.free 0
  have f1 := hB.free 1
  simp only [gz_, gs_] at c0 c1
  clear hB
  clear hg HN
  go_wp2_with fail
  refine (HP.out _).mono ?_
  rintro e w3 ⟨rfl, k, rfl⟩
  simp only [n0q]
  have HB := h_ ((HR.out.dn k).bad true)
  cases bad
  all_goals
   go_wp2_with fail
   go_ret
   refine ⟨by rw [HM2.out]; rfl, by rw [HM2.out]; simpa [badA] using HB.out, a0a (a0a HG.out (a0b (bd_ (Below.refl _ _) _))) (a0r _ _ _ _)⟩
end
end Go.Proofs.YtmnojnopejhebaaGreat
