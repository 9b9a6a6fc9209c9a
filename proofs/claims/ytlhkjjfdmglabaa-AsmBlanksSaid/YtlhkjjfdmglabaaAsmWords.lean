/- asm.Words: a text's parts. -/
import Derived.Test.YtlhkjjfdmglabaaAsmIx
import Derived.Test.YtlhkjjfdmglabaaAsmWordsP
import Derived.Test.YtlhkjjfdmglabaaAppS
namespace Go.Proofs.Ytlhkjjfdmglabaa
open Go.RowKit
set_option linter.unusedVariables false
set_option linter.unusedSimpArgs false

def strV (w : List UInt8) : Value := .string (ba w)
theorem el_str : El Try.prog 30 9 (.string ⟨#[]⟩) 1 16 := ⟨Try.underlying30, by kernel_rfl⟩
theorem ext_ba (s : ByteArray) (i n : Nat) : s.extract i (i + n) = ba ((s.data.toList.drop i).take n) := by
  apply ba_of
  rw [ByteArray.data_extract, Array.toList_extract]
  simp [List.extract]
theorem ext_one {s : ByteArray} {i : Nat} {x : UInt8} (h : s.data.toList[i]? = some x) : s.extract i (i + 1) = ba [x] := by
  rw [ext_ba, words_at h]; rfl
theorem ext_drop (s : ByteArray) (i : Nat) : (s.extract i s.size).data.toList = s.data.toList.drop i := by
  rw [ByteArray.data_extract, Array.toList_extract]
  have : s.data.toList.length = s.size := by rw [← Lib.size_eq]
  simp only [List.extract, List.take_drop]
  rw [List.take_of_length_le (by simp; omega)]
/-- What has been gathered, and what is left. -/
def WordsI (base : Nat) (w0 w : World) (v : Value) (l : List UInt8) (i : Nat) (acc : List (List UInt8)) : Prop :=
  acc ++ wordsL (l.drop i) = wordsL l ∧ w.ownsRow base 9 1 v acc.length (acc.map strV) ∧ Below base w0 w
theorem wordsI_below {w0 w w' : World} {v : Value} {l : List UInt8} {i : Nat} {acc : List (List UInt8)} (h : WordsI w0.heap.size w0 w v l i acc) (hb : Below w.heap.size w w') : WordsI w0.heap.size w0 w' v l i acc := by
  obtain ⟨h1, h2, h3⟩ := h
  exact ⟨h1, own_below h2 hb, below_trans h3 hb⟩
def SomeWords (l : List UInt8) (w : World) (e : Ending) (w' : World) : Prop :=
  ∃ v, e = .returned v ∧ w'.ownsRow w.heap.size 9 1 v (wordsL l).length ((wordsL l).map strV) ∧ Below w.heap.size w w'
theorem wordsI_one {w0 w w' : World} {v v' : Value} {l : List UInt8} {i : Nat} {c : UInt8} {acc : List (List UInt8)} (h : WordsI w0.heap.size w0 w v l i acc) (hx : l[i]? = some c) (hb : blankC c = false) (ho : ownC c = true)
    (hv : w'.ownsRow w0.heap.size 9 1 v' (acc.length + 1) (acc.map strV ++ [.string (ba [c])])) (hB : Below w0.heap.size w w') : WordsI w0.heap.size w0 w' v' l (i + 1) (acc ++ [[c]]) := by
  obtain ⟨h1, h2, h3⟩ := h
  exact ⟨words_own hx hb ho h1, by simpa [strV] using hv, h3.trans hB⟩
theorem wordsI_word {w0 w w' : World} {v v' : Value} {l : List UInt8} {i : Nat} {c : UInt8} {acc : List (List UInt8)} (h : WordsI w0.heap.size w0 w v l i acc) (hx : l[i]? = some c) (hw : wc c = true)
    (hv : w'.ownsRow w0.heap.size 9 1 v' (acc.length + 1) (acc.map strV ++ [.string (ba ((l.drop i).take (spanN (l.drop i))))])) (hB : Below w0.heap.size w w') : WordsI w0.heap.size w0 w' v' l (i + spanN (l.drop i)) (acc ++ [(l.drop i).take (spanN (l.drop i))]) := by
  obtain ⟨h1, h2, h3⟩ := h
  exact ⟨words_word hx hw h1, by simpa [strV] using hv, h3.trans hB⟩
theorem wordsI_blank {w0 w : World} {v : Value} {l : List UInt8} {i : Nat} {c : UInt8} {acc : List (List UInt8)} (h : WordsI w0.heap.size w0 w v l i acc) (hx : l[i]? = some c) (hb : blankC c = true) : WordsI w0.heap.size w0 w v l (i + 1) acc :=
  ⟨words_blank hx hb h.1, h.2⟩
theorem ceq (x : UInt8) (n : Nat) (hn : n < 256) : ((x.toNat : Int) == (n : Int)) = (x == UInt8.ofNat n) := by
  rw [Bool.eq_iff_iff]
  simp only [beq_iff_eq]
  constructor
  · intro h
    have h2 : x.toNat = n := by omega
    apply UInt8.toNat_inj.1
    rw [h2]; simp; omega
  · intro h
    rw [h]; simp; omega
set_option maxRecDepth 100000 in
set_option maxHeartbeats 1600000 in
theorem words_any (s : ByteArray) (w : World) (hs : s.size ≤ 1100000) :
    Calls Try.prog 13 #[.string s] w (SomeWords s.data.toList w) := by
  have HSZ := Lib.hid (show s.data.toList.length = s.size by rw [← Lib.size_eq])
  have HIX := Lib.hid (fun (i : Nat) (w1 : World) => ix_any (s.extract i s.size) w1 (by rw [ByteArray.size_extract]; omega))
  have HL := Lib.hid (fun i => ext_drop s i)
  go_enter Try.func13, Try.ntmps13
  go_wp2_with fail
  go_loopw [3, 4] (fun v i wr => ∃ (k : Nat) (acc : List (List UInt8)), k ≤ s.size ∧ i = .int .i64 k ∧ WordsI w.heap.size w wr v s.data.toList k acc) (fun _ i _ => s.size - (intOf i).toNat)
  case atStart => exact ⟨0, [], by omega, rfl, by simp, ⟨rfl, .inl ⟨rfl, rfl⟩⟩, Below.refl _ _⟩
  case round =>
    obtain ⟨k, acc, hk, rfl, hI⟩ := hrel
    have HI := Lib.hid hI
    have hacc : acc.length ≤ s.size := by rw [← HSZ.out]; exact words_inv hI.1
    clear hI
    by_cases hlt : k < s.size
    · have hk0 : (0 : Int) ≤ k := by omega
      obtain ⟨x, hx⟩ : ∃ x : UInt8, s[k]'hlt = x := ⟨_, rfl⟩
      have HX := Lib.hid (show s.data.toList[k]? = some x by rw [← hx]; exact Lib.data_getElem? s k hlt)
      have e1 := ceq x 32 (by decide)
      have e2 := ceq x 9 (by decide)
      have e3 := ceq x 44 (by decide)
      have e4 := ceq x 91 (by decide)
      have e5 := ceq x 93 (by decide)
      simp only [Int.ofNat_eq_natCast, Int.cast_ofNat_Int] at e1 e2 e3 e4 e5
      cases c0 : (x == UInt8.ofNat 32)
      · cases c1 : (x == UInt8.ofNat 9)
        · cases c2 : (x == UInt8.ofNat 44)
          · cases c3 : (x == UInt8.ofNat 91)
            · cases c4 : (x == UInt8.ofNat 93)
              · have hwc : wc x = true := by unfold wc blankC ownC; simp only [UInt8.reduceOfNat] at c0 c1 c2 c3 c4; simp [c0, c1, c2, c3, c4]
                rw [c0] at e1; rw [c1] at e2; rw [c2] at e3; rw [c3] at e4; rw [c4] at e5
                clear c0 c1 c2 c3 c4
                obtain ⟨p, c, rfl, _⟩ := own_form HI.out.2.1
                have hsp := spanN_le (s.data.toList.drop k)
                have hsp1 : 1 ≤ spanN (s.data.toList.drop k) := by rw [words_at HX.out]; exact spanN_pos hwc _
                have hix := index_span (s.data.toList.drop k)
                rw [List.length_drop, HSZ.out] at hsp hix
                have HXB := Lib.hid (show s.extract k (k + spanN (s.data.toList.drop k)) = ba ((s.data.toList.drop k).take (spanN (s.data.toList.drop k))) from ext_ba s k _)
                have HIW := Lib.hid (fun (w1 : World) (w' : World) v' (h : WordsI w.heap.size w w1 (.slice p acc.length c) s.data.toList k acc) h1 h2 => wordsI_word (v' := v') (w' := w') h HX.out hwc h1 h2)
                have HQ := Lib.hid (HIX.out k)
                rw [HL.out k] at HQ
                generalize hn : spanN (s.data.toList.drop k) = n at *
                have hIA : Lib.indexAny (s.data.toList.drop k) sepL = Lib.indexAny (s.data.toList.drop k) sepC := rfl
                rw [hIA] at HQ
                clear hIA hn
                go_wp2_with fail
                refine (HQ.out _).mono ?_
                rintro e w2 ⟨rfl, hb⟩
                have HI2 := Lib.hid (wordsI_below HI.out hb)
                clear hb HI HQ
                have HO := Lib.hid HI2.out.2.1
                have HZ := Lib.hid HI2.out.2.2.size
                have HIN := Lib.hid (fun v' w' => HIW.out _ w' v' HI2.out)
                rw [← HXB.out] at HIN
                clear HIW HXB
                rcases hix with ⟨h1, h2⟩ | ⟨h1, h2⟩
                · rw [h1]
                  obtain rfl : n = s.size - k := h2
                  clear h1
                  have hks : k + (s.size - k) = s.size := by omega
                  rw [hks] at HIN
                  clear hks
                  go_wp2_with (at_builtin; refine app1s rfl _ _ 30 rfl w.heap.size 9 _ 1 16 el_str rfl (by decide) _ _ _ rfl HO.out [.string (s.extract k s.size)] rfl _ rfl rfl (by simp [Value.oneCell']) ?c1 ?c2 ?c3 ?_)
                  case c1 => unfold maxLen; omega
                  case c2 => omega
                  case c3 => have := HZ.out; omega
                  intro v' w' ho' _ hb'
                  have HIF := Lib.hid (HIN.out v' w' ho' hb')
                  clear ho' hb' HO HIN HZ
                  go_wp2_with fail
                  go_roundw
                  case rel => exact ⟨s.size, _, by omega, by go_num, HIF.out⟩
                  case measure => simp [intOf] <;> omega
                · rw [h1]
                  clear h1
                  go_wp2_with (at_builtin; refine app1s rfl _ _ 30 rfl w.heap.size 9 _ 1 16 el_str rfl (by decide) _ _ _ rfl HO.out [.string (s.extract k (k + n))] rfl _ rfl rfl (by simp [Value.oneCell']) ?c1 ?c2 ?c3 ?_)
                  case c1 => unfold maxLen; omega
                  case c2 => omega
                  case c3 => have := HZ.out; omega
                  intro v' w' ho' _ hb'
                  have HIF := Lib.hid (HIN.out v' w' ho' hb')
                  clear ho' hb' HO HIN HZ
                  go_wp2_with fail
                  go_roundw
                  case rel => exact ⟨k + n, _, by omega, by go_num, HIF.out⟩
                  case measure => simp [intOf] <;> omega
              · rw [c4] at e5
                rw [c0] at e1
                rw [c1] at e2
                rw [c2] at e3
                rw [c3] at e4
                obtain ⟨p, c, rfl, _⟩ := own_form HI.out.2.1
                have HO := Lib.hid HI.out.2.1
                have HZ := Lib.hid HI.out.2.2.size
                have HIN := Lib.hid (fun v' w' h1 h2 => wordsI_one (v' := v') (w' := w') HI.out HX.out (by unfold blankC; simp only [UInt8.reduceOfNat] at c0 c1; simp [c0, c1]) (by unfold ownC; simp only [UInt8.reduceOfNat] at c4; simp [c4]) h1 h2)
                rw [← ext_one HX.out] at HIN
                clear c0 c1 c2 c3 c4 HI
                go_wp2_with (at_builtin; refine app1s rfl _ _ 30 rfl w.heap.size 9 _ 1 16 el_str rfl (by decide) _ _ _ rfl HO.out [.string (s.extract k (k + 1))] rfl _ rfl rfl (by simp [Value.oneCell']) ?c1 ?c2 ?c3 ?_)
                case c1 => unfold maxLen; omega
                case c2 => omega
                case c3 => have := HZ.out; omega
                intro v' w' ho' _ hb'
                have HIF := Lib.hid (HIN.out v' w' ho' hb')
                clear ho' hb' HO HIN HZ
                go_wp2_with fail
                go_roundw
                case rel => exact ⟨k + 1, _, by omega, by go_num, HIF.out⟩
                case measure => simp [intOf] <;> omega
            · rw [c3] at e4
              rw [c0] at e1
              rw [c1] at e2
              rw [c2] at e3
              obtain ⟨p, c, rfl, _⟩ := own_form HI.out.2.1
              have HO := Lib.hid HI.out.2.1
              have HZ := Lib.hid HI.out.2.2.size
              have HIN := Lib.hid (fun v' w' h1 h2 => wordsI_one (v' := v') (w' := w') HI.out HX.out (by unfold blankC; simp only [UInt8.reduceOfNat] at c0 c1; simp [c0, c1]) (by unfold ownC; simp only [UInt8.reduceOfNat] at c3; simp [c3]) h1 h2)
              rw [← ext_one HX.out] at HIN
              clear c0 c1 c2 c3 HI
              go_wp2_with (at_builtin; refine app1s rfl _ _ 30 rfl w.heap.size 9 _ 1 16 el_str rfl (by decide) _ _ _ rfl HO.out [.string (s.extract k (k + 1))] rfl _ rfl rfl (by simp [Value.oneCell']) ?c1 ?c2 ?c3 ?_)
              case c1 => unfold maxLen; omega
              case c2 => omega
              case c3 => have := HZ.out; omega
              intro v' w' ho' _ hb'
              have HIF := Lib.hid (HIN.out v' w' ho' hb')
              clear ho' hb' HO HIN HZ
              go_wp2_with fail
              go_roundw
              case rel => exact ⟨k + 1, _, by omega, by go_num, HIF.out⟩
              case measure => simp [intOf] <;> omega
          · rw [c2] at e3
            rw [c0] at e1
            rw [c1] at e2
            obtain ⟨p, c, rfl, _⟩ := own_form HI.out.2.1
            have HO := Lib.hid HI.out.2.1
            have HZ := Lib.hid HI.out.2.2.size
            have HIN := Lib.hid (fun v' w' h1 h2 => wordsI_one (v' := v') (w' := w') HI.out HX.out (by unfold blankC; simp only [UInt8.reduceOfNat] at c0 c1; simp [c0, c1]) (by unfold ownC; simp only [UInt8.reduceOfNat] at c2; simp [c2]) h1 h2)
            rw [← ext_one HX.out] at HIN
            clear c0 c1 c2 HI
            go_wp2_with (at_builtin; refine app1s rfl _ _ 30 rfl w.heap.size 9 _ 1 16 el_str rfl (by decide) _ _ _ rfl HO.out [.string (s.extract k (k + 1))] rfl _ rfl rfl (by simp [Value.oneCell']) ?c1 ?c2 ?c3 ?_)
            case c1 => unfold maxLen; omega
            case c2 => omega
            case c3 => have := HZ.out; omega
            intro v' w' ho' _ hb'
            have HIF := Lib.hid (HIN.out v' w' ho' hb')
            clear ho' hb' HO HIN HZ
            go_wp2_with fail
            go_roundw
            case rel => exact ⟨k + 1, _, by omega, by go_num, HIF.out⟩
            case measure => simp [intOf] <;> omega
        · rw [c1] at e2
          rw [c0] at e1
          have HB := Lib.hid (wordsI_blank HI.out HX.out (by unfold blankC; simp only [UInt8.reduceOfNat] at c1; simp [c1]))
          clear c0 c1
          clear HI
          go_wp2_with fail
          go_roundw
          case rel => exact ⟨k + 1, acc, by omega, by go_num, HB.out⟩
          case measure => simp [intOf] <;> omega
      · rw [c0] at e1
        have HB := Lib.hid (wordsI_blank HI.out HX.out (by unfold blankC; simp only [UInt8.reduceOfNat] at c0; simp [c0]))
        clear c0
        clear HI
        go_wp2_with fail
        go_roundw
        case rel => exact ⟨k + 1, acc, by omega, by go_num, HB.out⟩
        case measure => simp [intOf] <;> omega
    · obtain rfl : k = s.size := by omega
      have HF := Lib.hid (show acc = wordsL s.data.toList by have := HI.out.1; rw [← HSZ.out, List.drop_length] at this; simpa [wordsL] using this)
      go_wp2_with fail
      go_ret
      exact ⟨_, rfl, by rw [← HF.out]; exact HI.out.2.1, HI.out.2.2⟩
end Go.Proofs.Ytlhkjjfdmglabaa
