/- The reader of a text's parts: may, number, reg, count, branch, place. -/
import Derived.Test.YtcaifejfkpmeeaaGreatMgab
import Derived.Test.YtcaifejfkpmeeaaGreatMgad
import Derived.Test.YtcaifejfkpmeeaaGreatMgak
import Derived.Test.YtcaifejfkpmeeaaGreatMgal
import Derived.Outline
namespace Go.Proofs.YtcaifejfkpmeeaaGreat
open Go.RowKit
set_option linter.unusedVariables false
set_option linter.unusedSimpArgs false

def strV (w : List UInt8) : Value := .string (ba w)
theorem el_str : El Tryz.prog 104 9 (.string ⟨#[]⟩) 1 16 := ⟨Tryz.underlying104, by kernel_rfl⟩
theorem ext_ba (s : ByteArray) (i n : Nat) : s.extract i (i + n) = ba ((s.data.toList.drop i).take n) := by
  apply ba_of
  rw [ByteArray.data_extract, Array.toList_extract]
  simp [List.extract]
theorem ext_one {s : ByteArray} {i : Nat} {x : UInt8} (h : s.data.toList[i]? = some x) : s.extract i (i + 1) = ba [x] := by
  rw [ext_ba, words_at h]; rfl
theorem ext_drop (s : ByteArray) (i : Nat) : (s.extract i s.size).data.toList = s.data.toList.drop i := by
  rw [ByteArray.data_extract, Array.toList_extract]
  have : s.data.toList.length = s.size := by rw [← Lib.size_eq]
  simp only [List.extract, List.take_drop]
  rw [List.take_of_length_le (by simp; omega)]
/-- What has been gathered, and what is left. -/
def WordsI (base : Nat) (w0 w : World) (v : Value) (l : List UInt8) (i : Nat) (acc : List (List UInt8)) : Prop :=
  acc ++ wordsL (l.drop i) = wordsL l ∧ w.ownsRow base 9 1 v acc.length (acc.map strV) ∧ Below base w0 w
theorem wordsI_below {w0 w w' : World} {v : Value} {l : List UInt8} {i : Nat} {acc : List (List UInt8)} (h : WordsI w0.heap.size w0 w v l i acc) (hb : Below w.heap.size w w') : WordsI w0.heap.size w0 w' v l i acc := by
  obtain ⟨h1, h2, h3⟩ := h
  exact ⟨h1, own_below h2 hb, below_trans h3 hb⟩
def SomeWords (l : List UInt8) (w : World) (e : Ending) (w' : World) : Prop :=
  ∃ v, e = .returned v ∧ w'.ownsRow w.heap.size 9 1 v (wordsL l).length ((wordsL l).map strV) ∧ Below w.heap.size w w'
theorem wordsI_one {w0 w w' : World} {v v' : Value} {l : List UInt8} {i : Nat} {c : UInt8} {acc : List (List UInt8)} (h : WordsI w0.heap.size w0 w v l i acc) (hx : l[i]? = some c) (hb : blankC c = false) (ho : ownC c = true)
    (hv : w'.ownsRow w0.heap.size 9 1 v' (acc.length + 1) (acc.map strV ++ [.string (ba [c])])) (hB : Below w0.heap.size w w') : WordsI w0.heap.size w0 w' v' l (i + 1) (acc ++ [[c]]) := by
  obtain ⟨h1, h2, h3⟩ := h
  exact ⟨words_own hx hb ho h1, by simpa [strV] using hv, h3.trans hB⟩
theorem wordsI_word {w0 w w' : World} {v v' : Value} {l : List UInt8} {i : Nat} {c : UInt8} {acc : List (List UInt8)} (h : WordsI w0.heap.size w0 w v l i acc) (hx : l[i]? = some c) (hw : wc c = true)
    (hv : w'.ownsRow w0.heap.size 9 1 v' (acc.length + 1) (acc.map strV ++ [.string (ba ((l.drop i).take (spanN (l.drop i))))])) (hB : Below w0.heap.size w w') : WordsI w0.heap.size w0 w' v' l (i + spanN (l.drop i)) (acc ++ [(l.drop i).take (spanN (l.drop i))]) := by
  obtain ⟨h1, h2, h3⟩ := h
  exact ⟨words_word hx hw h1, by simpa [strV] using hv, h3.trans hB⟩
theorem wordsI_blank {w0 w : World} {v : Value} {l : List UInt8} {i : Nat} {c : UInt8} {acc : List (List UInt8)} (h : WordsI w0.heap.size w0 w v l i acc) (hx : l[i]? = some c) (hb : blankC c = true) : WordsI w0.heap.size w0 w v l (i + 1) acc :=
  ⟨words_blank hx hb h.1, h.2⟩
theorem ceq (x : UInt8) (n : Nat) (hn : n < 256) : ((x.toNat : Int) == (n : Int)) = (x == UInt8.ofNat n) := by
  rw [Bool.eq_iff_iff]
  simp only [beq_iff_eq]
  constructor
  · intro h
    have h2 : x.toNat = n := by omega
    apply UInt8.toNat_inj.1
    rw [h2]; simp; omega
  · intro h
    rw [h]; simp; omega
set_option maxRecDepth 100000 in
set_option maxHeartbeats 1600000 in
theorem words_any (s : ByteArray) (w : World) (hs : s.size ≤ 1100000) :
    Calls Tryz.prog 52 #[.string s] w (SomeWords s.data.toList w) := by
  have HSZ := Lib.hid (show s.data.toList.length = s.size by rw [← Lib.size_eq])
  have HIX := Lib.hid (fun (i : Nat) (w1 : World) => ix_any (s.extract i s.size) w1 (by rw [ByteArray.size_extract]; omega))
  have HL := Lib.hid (fun i => ext_drop s i)
  go_enter Tryz.func52, Tryz.ntmps52
  go_wp2_with fail
  go_loopw [3, 4] (fun v i wr => ∃ (k : Nat) (acc : List (List UInt8)), k ≤ s.size ∧ i = .int .i64 k ∧ WordsI w.heap.size w wr v s.data.toList k acc) (fun _ i _ => s.size - (intOf i).toNat)
  case atStart => exact ⟨0, [], by omega, rfl, by simp, ⟨rfl, .inl ⟨rfl, rfl⟩⟩, Below.refl _ _⟩
  case round =>
    obtain ⟨k, acc, hk, rfl, hI⟩ := hrel
    have HI := Lib.hid hI
    have hacc : acc.length ≤ s.size := by rw [← HSZ.out]; exact words_inv hI.1
    clear hI
    by_cases hlt : k < s.size
    · have hk0 : (0 : Int) ≤ k := by omega
      obtain ⟨x, hx⟩ : ∃ x : UInt8, s[k]'hlt = x := ⟨_, rfl⟩
      have HX := Lib.hid (show s.data.toList[k]? = some x by rw [← hx]; exact Lib.data_getElem? s k hlt)
      have e1 := ceq x 32 (by decide)
      have e2 := ceq x 9 (by decide)
      have e3 := ceq x 44 (by decide)
      have e4 := ceq x 91 (by decide)
      have e5 := ceq x 93 (by decide)
      simp only [Int.ofNat_eq_natCast, Int.cast_ofNat_Int] at e1 e2 e3 e4 e5
      cases c0 : (x == UInt8.ofNat 32)
      · cases c1 : (x == UInt8.ofNat 9)
        · cases c2 : (x == UInt8.ofNat 44)
          · cases c3 : (x == UInt8.ofNat 91)
            · cases c4 : (x == UInt8.ofNat 93)
              · have hwc : wc x = true := by unfold wc blankC ownC; simp only [UInt8.reduceOfNat] at c0 c1 c2 c3 c4; simp [c0, c1, c2, c3, c4]
                rw [c0] at e1; rw [c1] at e2; rw [c2] at e3; rw [c3] at e4; rw [c4] at e5
                clear c0 c1 c2 c3 c4
                obtain ⟨p, c, rfl, _⟩ := own_form HI.out.2.1
                have hsp := spanN_le (s.data.toList.drop k)
                have hsp1 : 1 ≤ spanN (s.data.toList.drop k) := by rw [words_at HX.out]; exact spanN_pos hwc _
                have hix := index_span (s.data.toList.drop k)
                rw [List.length_drop, HSZ.out] at hsp hix
                have HXB := Lib.hid (show s.extract k (k + spanN (s.data.toList.drop k)) = ba ((s.data.toList.drop k).take (spanN (s.data.toList.drop k))) from ext_ba s k _)
                have HIW := Lib.hid (fun (w1 : World) (w' : World) v' (h : WordsI w.heap.size w w1 (.slice p acc.length c) s.data.toList k acc) h1 h2 => wordsI_word (v' := v') (w' := w') h HX.out hwc h1 h2)
                have HQ := Lib.hid (HIX.out k)
                rw [HL.out k] at HQ
                generalize hn : spanN (s.data.toList.drop k) = n at *
                have hIA : Lib.indexAny (s.data.toList.drop k) sepL = Lib.indexAny (s.data.toList.drop k) sepC := rfl
                rw [hIA] at HQ
                clear hIA hn
                go_wp2_with fail
                refine (HQ.out _).mono ?_
                rintro e w2 ⟨rfl, hb⟩
                have HI2 := Lib.hid (wordsI_below HI.out hb)
                clear hb HI HQ
                have HO := Lib.hid HI2.out.2.1
                have HZ := Lib.hid HI2.out.2.2.size
                have HIN := Lib.hid (fun v' w' => HIW.out _ w' v' HI2.out)
                rw [← HXB.out] at HIN
                clear HIW HXB
                rcases hix with ⟨h1, h2⟩ | ⟨h1, h2⟩
                · rw [h1]
                  obtain rfl : n = s.size - k := h2
                  clear h1
                  have hks : k + (s.size - k) = s.size := by omega
                  rw [hks] at HIN
                  clear hks
                  go_wp2_with (at_builtin; refine app1s rfl _ _ 104 rfl w.heap.size 9 _ 1 16 el_str rfl (by decide) _ _ _ rfl HO.out [.string (s.extract k s.size)] rfl _ rfl rfl (by simp [Value.oneCell']) ?c1 ?c2 ?c3 ?_)
                  case c1 => unfold maxLen; omega
                  case c2 => omega
                  case c3 => have := HZ.out; omega
                  intro v' w' ho' _ hb'
                  have HIF := Lib.hid (HIN.out v' w' ho' hb')
                  clear ho' hb' HO HIN HZ
                  go_wp2_with fail
                  go_roundw
                  case rel => exact ⟨s.size, _, by omega, by go_num, HIF.out⟩
                  case measure => simp [intOf] <;> omega
                · rw [h1]
                  clear h1
                  go_wp2_with (at_builtin; refine app1s rfl _ _ 104 rfl w.heap.size 9 _ 1 16 el_str rfl (by decide) _ _ _ rfl HO.out [.string (s.extract k (k + n))] rfl _ rfl rfl (by simp [Value.oneCell']) ?c1 ?c2 ?c3 ?_)
                  case c1 => unfold maxLen; omega
                  case c2 => omega
                  case c3 => have := HZ.out; omega
                  intro v' w' ho' _ hb'
                  have HIF := Lib.hid (HIN.out v' w' ho' hb')
                  clear ho' hb' HO HIN HZ
                  go_wp2_with fail
                  go_roundw
                  case rel => exact ⟨k + n, _, by omega, by go_num, HIF.out⟩
                  case measure => simp [intOf] <;> omega
              · rw [c4] at e5
                rw [c0] at e1
                rw [c1] at e2
                rw [c2] at e3
                rw [c3] at e4
                obtain ⟨p, c, rfl, _⟩ := own_form HI.out.2.1
                have HO := Lib.hid HI.out.2.1
                have HZ := Lib.hid HI.out.2.2.size
                have HIN := Lib.hid (fun v' w' h1 h2 => wordsI_one (v' := v') (w' := w') HI.out HX.out (by unfold blankC; simp only [UInt8.reduceOfNat] at c0 c1; simp [c0, c1]) (by unfold ownC; simp only [UInt8.reduceOfNat] at c4; simp [c4]) h1 h2)
                rw [← ext_one HX.out] at HIN
                clear c0 c1 c2 c3 c4 HI
                go_wp2_with (at_builtin; refine app1s rfl _ _ 104 rfl w.heap.size 9 _ 1 16 el_str rfl (by decide) _ _ _ rfl HO.out [.string (s.extract k (k + 1))] rfl _ rfl rfl (by simp [Value.oneCell']) ?c1 ?c2 ?c3 ?_)
                case c1 => unfold maxLen; omega
                case c2 => omega
                case c3 => have := HZ.out; omega
                intro v' w' ho' _ hb'
                have HIF := Lib.hid (HIN.out v' w' ho' hb')
                clear ho' hb' HO HIN HZ
                go_wp2_with fail
                go_roundw
                case rel => exact ⟨k + 1, _, by omega, by go_num, HIF.out⟩
                case measure => simp [intOf] <;> omega
            · rw [c3] at e4
              rw [c0] at e1
              rw [c1] at e2
              rw [c2] at e3
              obtain ⟨p, c, rfl, _⟩ := own_form HI.out.2.1
              have HO := Lib.hid HI.out.2.1
              have HZ := Lib.hid HI.out.2.2.size
              have HIN := Lib.hid (fun v' w' h1 h2 => wordsI_one (v' := v') (w' := w') HI.out HX.out (by unfold blankC; simp only [UInt8.reduceOfNat] at c0 c1; simp [c0, c1]) (by unfold ownC; simp only [UInt8.reduceOfNat] at c3; simp [c3]) h1 h2)
              rw [← ext_one HX.out] at HIN
              clear c0 c1 c2 c3 HI
              go_wp2_with (at_builtin; refine app1s rfl _ _ 104 rfl w.heap.size 9 _ 1 16 el_str rfl (by decide) _ _ _ rfl HO.out [.string (s.extract k (k + 1))] rfl _ rfl rfl (by simp [Value.oneCell']) ?c1 ?c2 ?c3 ?_)
              case c1 => unfold maxLen; omega
              case c2 => omega
              case c3 => have := HZ.out; omega
              intro v' w' ho' _ hb'
              have HIF := Lib.hid (HIN.out v' w' ho' hb')
              clear ho' hb' HO HIN HZ
              go_wp2_with fail
              go_roundw
              case rel => exact ⟨k + 1, _, by omega, by go_num, HIF.out⟩
              case measure => simp [intOf] <;> omega
          · rw [c2] at e3
            rw [c0] at e1
            rw [c1] at e2
            obtain ⟨p, c, rfl, _⟩ := own_form HI.out.2.1
            have HO := Lib.hid HI.out.2.1
            have HZ := Lib.hid HI.out.2.2.size
            have HIN := Lib.hid (fun v' w' h1 h2 => wordsI_one (v' := v') (w' := w') HI.out HX.out (by unfold blankC; simp only [UInt8.reduceOfNat] at c0 c1; simp [c0, c1]) (by unfold ownC; simp only [UInt8.reduceOfNat] at c2; simp [c2]) h1 h2)
            rw [← ext_one HX.out] at HIN
            clear c0 c1 c2 HI
            go_wp2_with (at_builtin; refine app1s rfl _ _ 104 rfl w.heap.size 9 _ 1 16 el_str rfl (by decide) _ _ _ rfl HO.out [.string (s.extract k (k + 1))] rfl _ rfl rfl (by simp [Value.oneCell']) ?c1 ?c2 ?c3 ?_)
            case c1 => unfold maxLen; omega
            case c2 => omega
            case c3 => have := HZ.out; omega
            intro v' w' ho' _ hb'
            have HIF := Lib.hid (HIN.out v' w' ho' hb')
            clear ho' hb' HO HIN HZ
            go_wp2_with fail
            go_roundw
            case rel => exact ⟨k + 1, _, by omega, by go_num, HIF.out⟩
            case measure => simp [intOf] <;> omega
        · rw [c1] at e2
          rw [c0] at e1
          have HB := Lib.hid (wordsI_blank HI.out HX.out (by unfold blankC; simp only [UInt8.reduceOfNat] at c1; simp [c1]))
          clear c0 c1
          clear HI
          go_wp2_with fail
          go_roundw
          case rel => exact ⟨k + 1, acc, by omega, by go_num, HB.out⟩
          case measure => simp [intOf] <;> omega
      · rw [c0] at e1
        have HB := Lib.hid (wordsI_blank HI.out HX.out (by unfold blankC; simp only [UInt8.reduceOfNat] at c0; simp [c0]))
        clear c0
        clear HI
        go_wp2_with fail
        go_roundw
        case rel => exact ⟨k + 1, acc, by omega, by go_num, HB.out⟩
        case measure => simp [intOf] <;> omega
    · obtain rfl : k = s.size := by omega
      have HF := Lib.hid (show acc = wordsL s.data.toList by have := HI.out.1; rw [← HSZ.out, List.drop_length] at this; simpa [wordsL] using this)
      go_wp2_with fail
      go_ret
      exact ⟨_, rfl, by rw [← HF.out]; exact HI.out.2.1, HI.out.2.2⟩
end Go.Proofs.YtcaifejfkpmeeaaGreat
namespace Go.Proofs.YtcaifejfkpmeeaaGreat
open Go.RowKit
set_option linter.unusedVariables false
set_option linter.unusedSimpArgs false

/-- A reader at block r: the parts that are left, and whether it is bad. -/
def ARd (w : World) (r G : Nat) (s : AS) : Prop :=
  ∃ p c, Blk w 107 r [.slice p s.1.length c, .bool s.2] ∧ Rds w 1 p s.1.length (s.1.map strV) ∧ s.1.length ≤ c ∧ c ≤ maxLen ∧ (∀ a, p = some a → a.block ≠ r) ∧ (∀ q ∈ s.1, q.length ≤ 1100000) ∧ (∀ a, p = some a → a.block < G) ∧ G ≤ w.heap.size
theorem ARd.lt {w : World} {r G : Nat} {s : AS} (h : ARd w r G s) : r < w.heap.size := by obtain ⟨p, c, h, _⟩ := h; exact h.lt
theorem ARd.below {w w' : World} {r G : Nat} {s : AS} (h : ARd w r G s) (hb : Below w.heap.size w w') : ARd w' r G s := by
  obtain ⟨p, c, h1, h2, h3, h4, h5, h6, h7, h8⟩ := h
  exact ⟨p, c, h1.below hb, h2.below hb, h3, h4, h5, h6, h7, Nat.le_trans h8 hb.size⟩
theorem ARd.dn {w : World} {r G : Nat} {s : AS} (h : ARd w r G s) (k : Nat) : ARd (w.drewN k) r G s := h
theorem ARd.set1 {w : World} {r G : Nat} {s : AS} (h : ARd w r G s) (b : Bool) : ARd (w.setCell ⟨r, 1, none⟩ (.bool b)) r G (s.1, b) := by
  obtain ⟨p, c, h1, h2, h3, h4, h5, h6, h7, h8⟩ := h
  exact ⟨p, c, by simpa using h1.set 1 (.bool b), h2.grownR (grown_setR w r 1 _) (fun a ha e => h5 a ha (by injection e)), h3, h4, h5, h6, h7, by simpa using h8⟩
/-- A store into a block of one's own. -/
theorem ARd.other {w : World} {r G : Nat} {s : AS} (h : ARd w r G s) {B : Nat} (hB : G ≤ B) (hr : r ≠ B) (j : Nat) (v : Value) : ARd (w.setCell ⟨B, j, none⟩ v) r G s := by
  obtain ⟨p, c, h1, h2, h3, h4, h5, h6, h7, h8⟩ := h
  exact ⟨p, c, h1.other (p := ⟨B, j, none⟩) hr v, h2.grownR (grown_setR w B j _) (fun a ha e => by injection e with e; have := h7 a ha; omega), h3, h4, h5, h6, h7, by simpa using h8⟩
theorem ARd.G_le {w : World} {r G : Nat} {s : AS} (h : ARd w r G s) : G ≤ w.heap.size := by obtain ⟨p, c, h1, h2, h3, h4, h5, h6, h7, h8⟩ := h; exact h8
def SomeR {α : Type} (r G : Nat) (w : World) (V : α → Value) (x : α × AS) (e : Ending) (w' : World) : Prop := e = .returned (V x.1) ∧ ARd w' r G x.2 ∧ w.grownBy w' (some r)
theorem ard_tail {w : World} {r G g off c o' c' : Nat} {x : List UInt8} {ws : List (List UInt8)} {bad : Bool} (hB : Blk w 107 r [.slice (some ⟨g, off, none⟩) (ws.length + 1) c, .bool bad])
    (hR : Rds w 1 (some ⟨g, off, none⟩) (ws.length + 1) ((x :: ws).map strV)) (hgr : g ≠ r) (ho : 0 < ws.length → o' = off + 1) (hc : ws.length ≤ c') (hcm : c' ≤ maxLen) (hq : ∀ q ∈ x :: ws, q.length ≤ 1100000) (hgG : g < G) (hGw : G ≤ w.heap.size) :
    ARd (w.setCell ⟨r, 0, none⟩ (.slice (some ⟨g, o', none⟩) ws.length c')) r G (ws, bad) := by
  have h1 := hR.grownR (grown_setR w r 0 (.slice (some ⟨g, o', none⟩) ws.length c')) (fun a ha e => hgr (by cases ha; injection e))
  refine ⟨some ⟨g, o', none⟩, c', by simpa using hB.set 0 (.slice (some ⟨g, o', none⟩) ws.length c'), ⟨by simp, fun hn => ?_⟩, hc, hcm, fun a ha => by cases ha; exact hgr, fun q hq' => hq q (List.mem_cons_of_mem _ hq'), fun a ha => by cases ha; exact hgG, by simpa using hGw⟩
  obtain rfl := ho hn
  refine ⟨g, off + 1, rfl, fun j hj => ?_⟩
  obtain ⟨g', off', hp, hcell⟩ := h1.2 (by omega)
  cases hp
  have hj' : j < ws.length := by simpa using hj
  have := hcell (j + 1) (by omega)
  rw [show off + 1 + j = off + (j + 1) by omega, this]
  simp
set_option maxRecDepth 100000 in
set_option maxHeartbeats 1600000 in
theorem anext_any {r G : Nat} {s : AS} (w : World) (h : ARd w r G s) :
    Calls Tryz.prog 61 #[.pointer (some ⟨r, 0, none⟩)] w (SomeR r G w (fun x => .string (ba x)) (nextA s)) := by
  have HR := Lib.hid h
  obtain ⟨ws, bad⟩ := s
  obtain ⟨p, c, hB, hRd, hlc, hcm, hne, hq, hqG, hGw⟩ := h
  have c0 := hB.cell 0
  have c1 := hB.cell 1
  have f0 := hB.free 0
  have f1 := hB.free 1
  simp only [List.getElem?_cons_zero, List.getElem?_cons_succ] at c0 c1
  cases ws with
  | nil =>
    have HX := Lib.hid (show ARd (w.setCell ⟨r, 1, none⟩ (.bool true)) r G ([], true) from HR.out.set1 true)
    clear hB hRd HR hne hq hqG hGw
    go_enter Tryz.func61, Tryz.ntmps61
    go_wp2_with fail
    go_ret
    exact ⟨rfl, HX.out, grown_setR _ _ _ _⟩
  | cons x ws =>
    obtain ⟨g, off, u, rfl, hu, hc⟩ := hRd.at_ (j := 0) (by simp)
    obtain rfl : u = .string (ba x) := by simpa [strV] using hu.symm
    rw [Nat.add_zero] at hc
    simp only [List.length_cons] at c0 hlc
    clear hu
    have hgr : g ≠ r := hne _ rfl
    unfold maxLen at hcm
    by_cases h1 : c = 1
    · subst h1
      obtain rfl : ws = [] := List.eq_nil_of_length_eq_zero (by omega)
      have HX := Lib.hid (ard_tail (o' := off) (c' := 0) hB hRd hgr (by simp) (by simp) (by unfold maxLen; omega) hq (hqG _ rfl) hGw)
      clear hB hRd hne hq hqG hGw
      simp only [List.length_nil] at c0 hlc
      go_enter Tryz.func61, Tryz.ntmps61
      go_wp2_with fail
      go_ret
      exact ⟨rfl, HX.out, grown_setR _ _ _ _⟩
    · have HX := Lib.hid (ard_tail (o' := off + 1) (c' := c - 1) hB hRd hgr (by simp) (by omega) (by unfold maxLen; omega) hq (hqG _ rfl) hGw)
      clear hB hRd hne hq hqG hGw
      go_enter Tryz.func61, Tryz.ntmps61
      go_wp2_with fail
      go_ret
      exact ⟨rfl, HX.out, grown_setR _ _ _ _⟩
set_option maxRecDepth 100000 in
set_option maxHeartbeats 1600000 in
theorem amust_any {r G : Nat} {s : AS} (w : World) (t : List UInt8) (h : ARd w r G s) :
    Calls Tryz.prog 67 #[.pointer (some ⟨r, 0, none⟩), .string (ba t)] w fun e w' => e = .returned (.tuple #[]) ∧ ARd w' r G (mustA s t) ∧ w.grownBy w' (some r) := by
  have HN := Lib.hid (anext_any w h)
  have HM := Lib.hid (show mustA s t = badA (nextA s).2 (decide (¬ (nextA s).1 = t)) from rfl)
  generalize nextA s = y at *
  obtain ⟨x, s2⟩ := y
  by_cases hx : x = t
  · subst hx
    clear h
    go_enter Tryz.func67, Tryz.ntmps67
    go_wp2_with fail
    refine (HN.out).mono ?_
    rintro e w2 ⟨rfl, hr, hg⟩
    have HR := Lib.hid hr
    have HG := Lib.hid hg
    clear hr hg HN
    go_wp2_with fail
    go_end0
    exact ⟨rfl, by rw [HM.out]; simpa [badA] using HR.out, HG.out⟩
  · have hxb : ((ba x).toList == (ba t).toList) = false := toList_ne (fun e => hx (by have := congrArg (fun b => b.data.toList) e; simpa [ba_data] using this))
    have HX := Lib.hid hx
    clear h hx
    go_enter Tryz.func67, Tryz.ntmps67
    go_wp2_with fail
    refine (HN.out).mono ?_
    rintro e w2 ⟨rfl, hr, hg⟩
    have HR := Lib.hid hr
    have HG := Lib.hid hg
    have hrl := hr.lt
    obtain ⟨p, c, hB, _⟩ := hr
    have c1 := hB.cell 1
    have f1 := hB.free 1
    simp only [List.getElem?_cons_zero, List.getElem?_cons_succ] at c1
    clear hg HN hB
    go_wp2_with fail
    go_end0
    exact ⟨rfl, by rw [HM.out]; simp only [HX.out, badA, not_false_eq_true, decide_true, Bool.or_true]; exact HR.out.set1 true, grown_thenR HG.out (grown_setR _ _ _ _)⟩
end Go.Proofs.YtcaifejfkpmeeaaGreat
namespace Go.Proofs.YtcaifejfkpmeeaaGreat
open Go.RowKit
set_option linter.unusedVariables false
set_option linter.unusedSimpArgs false

theorem pre_eq (s p : ByteArray) (h : p.size ≤ s.size) : ((s.extract 0 p.size).toList == p.toList) = p.data.toList.isPrefixOf s.data.toList := by
  rw [toList_ba, toList_ba, Bool.eq_iff_iff, beq_iff_eq, List.isPrefixOf_iff_prefix, ByteArray.data_extract, Array.toList_extract]
  have hl : p.data.toList.length = p.size := by rw [← Lib.size_eq]
  simp only [List.extract, Nat.sub_zero, List.drop_zero]
  rw [← hl]
  exact ⟨fun e => by rw [← e]; exact List.take_prefix _ _, fun e => (List.prefix_iff_eq_take.1 e).symm⟩
theorem pre_short (s p : ByteArray) (h : ¬ p.size ≤ s.size) : p.data.toList.isPrefixOf s.data.toList = false := by
  cases hh : p.data.toList.isPrefixOf s.data.toList with
  | false => rfl
  | true =>
    have := (List.isPrefixOf_iff_prefix.1 hh).length_le
    rw [← Lib.size_eq, ← Lib.size_eq] at this
    exact absurd this h
theorem slp_any (s p : ByteArray) (w : World) :
    Calls Tryz.prog 105 #[.string s, .string p] w fun e w' => e = .returned (.bool (p.data.toList.isPrefixOf s.data.toList)) ∧ w = w' := by
  by_cases h : p.size ≤ s.size
  · have he := pre_eq s p h
    have hle : (p.size : Int) ≤ s.size := by omega
    generalize p.data.toList.isPrefixOf s.data.toList = b at *
    go_enter Tryz.func105, Tryz.ntmps105
    go_wp2_with fail
    go_ret
    exact ⟨rfl, rfl⟩
  · have he := pre_short s p h
    have hle : ¬ (p.size : Int) ≤ s.size := by omega
    generalize p.data.toList.isPrefixOf s.data.toList = b at *
    subst he
    go_enter Tryz.func105, Tryz.ntmps105
    go_wp2_with fail
    go_ret
    exact ⟨rfl, rfl⟩
theorem hasp_any (s p : ByteArray) (w : World) :
    Calls Tryz.prog 90 #[.string s, .string p] w fun e w' => e = .returned (.bool (p.data.toList.isPrefixOf s.data.toList)) ∧ w = w' := by
  have HS := Lib.hid (fun w1 => slp_any s p w1)
  generalize p.data.toList.isPrefixOf s.data.toList = b at *
  go_enter Tryz.func90, Tryz.ntmps90
  go_wp2_with fail
  refine (HS.out _).mono ?_
  rintro e w' ⟨rfl, rfl⟩
  go_wp2_with fail
  go_ret
  exact ⟨rfl, rfl⟩
theorem cutA_eq (s p : ByteArray) : (p.data.toList.isPrefixOf s.data.toList = true → cutA p.data.toList s.data.toList = ((s.extract p.size s.size).data.toList, true) ∧ p.size ≤ s.size) ∧ (p.data.toList.isPrefixOf s.data.toList = false → cutA p.data.toList s.data.toList = (s.data.toList, false)) := by
  have hl : p.data.toList.length = p.size := by rw [← Lib.size_eq]
  have hl2 : s.data.toList.length = s.size := by rw [← Lib.size_eq]
  refine ⟨fun h => ⟨?_, ?_⟩, fun h => by unfold cutA; rw [h]; rfl⟩
  · unfold cutA
    rw [if_pos h, hl, ByteArray.data_extract, Array.toList_extract]
    simp only [List.extract, List.take_drop]
    rw [List.take_of_length_le (by omega)]
  · have := (List.isPrefixOf_iff_prefix.1 h).length_le
    omega
theorem cut_ba (s p : ByteArray) (w : World) :
    Calls Tryz.prog 106 #[.string s, .string p] w fun e w' => e = .returned (.tuple #[.string (ba (cutA p.data.toList s.data.toList).1), .bool (cutA p.data.toList s.data.toList).2]) ∧ w = w' := by
  have HS := Lib.hid (fun w1 => slp_any s p w1)
  obtain ⟨h1, h2⟩ := cutA_eq s p
  cases hb : p.data.toList.isPrefixOf s.data.toList with
  | true =>
    rw [hb] at HS
    obtain ⟨h3, h4⟩ := h1 hb
    have HC := Lib.hid h3
    have hle : (p.size : Int) ≤ s.size := by omega
    clear h1 h2 hb h3
    go_enter Tryz.func106, Tryz.ntmps106
    go_wp2_with fail
    refine (HS.out _).mono ?_
    rintro e w' ⟨rfl, rfl⟩
    go_wp2_with fail
    go_ret2
    exact ⟨by rw [HC.out]; rfl, rfl⟩
  | false =>
    rw [hb] at HS
    have HC := Lib.hid (h2 hb)
    clear h1 h2 hb
    go_enter Tryz.func106, Tryz.ntmps106
    go_wp2_with fail
    refine (HS.out _).mono ?_
    rintro e w' ⟨rfl, rfl⟩
    go_wp2_with fail
    go_ret2
    exact ⟨by rw [HC.out]; rfl, rfl⟩
theorem cut_any (x p : List UInt8) (w : World) :
    Calls Tryz.prog 91 #[.string (ba x), .string (ba p)] w fun e w' => e = .returned (.tuple #[.string (ba (cutA p x).1), .bool (cutA p x).2]) ∧ w = w' := by
  have HS := Lib.hid (fun w1 => cut_ba (ba x) (ba p) w1)
  simp only [ba_data] at HS
  generalize cutA p x = c at *
  obtain ⟨c1, c2⟩ := c
  go_enter Tryz.func91, Tryz.ntmps91
  go_wp2_with fail
  refine (HS.out _).mono ?_
  rintro e w' ⟨rfl, rfl⟩
  go_wp2_with fail
  go_ret2
  exact ⟨rfl, rfl⟩
end Go.Proofs.YtcaifejfkpmeeaaGreat
namespace Go.Proofs.YtcaifejfkpmeeaaGreat
open Go.RowKit
set_option linter.unusedVariables false
set_option linter.unusedSimpArgs false

def intV (n : Int) : Value := .int .i64 n
def boolV (b : Bool) : Value := .bool b
theorem ba_ne {x t : List UInt8} (h : ¬ x = t) : ((ba x).toList == (ba t).toList) = false := toList_ne (fun e => h (by have := congrArg (fun b => b.data.toList) e; simpa [ba_data] using this))
theorem nextA_size {r G : Nat} {s : AS} {w : World} (h : ARd w r G s) : (nextA s).1.length ≤ 1100000 := by
  obtain ⟨p, c, _, _, _, _, _, hq, _⟩ := h
  obtain ⟨ws, b⟩ := s
  cases ws with
  | nil => simp [nextA]
  | cons x ws => exact hq x (by simp)
theorem cutA_len (p x : List UInt8) : (cutA p x).1.length ≤ x.length := by unfold cutA; split <;> simp
theorem ARd.bad {w : World} {r G : Nat} {s : AS} (h : ARd w r G s) (b : Bool) : ARd (w.setCell ⟨r, 1, none⟩ (.bool (s.2 || b))) r G (badA s b) := h.set1 _
set_option maxRecDepth 100000 in
set_option maxHeartbeats 1600000 in
theorem amay_any {r G : Nat} {s : AS} (w : World) (t : List UInt8) (h : ARd w r G s) :
    Calls Tryz.prog 89 #[.pointer (some ⟨r, 0, none⟩), .string (ba t)] w (SomeR r G w boolV (mayA s t)) := by
  have HR := Lib.hid h
  obtain ⟨ws, bad⟩ := s
  obtain ⟨p, c, hB, hRd, hlc, hcm, hne, hq, hqG, hGw⟩ := h
  have c0 := hB.cell 0
  have c1 := hB.cell 1
  have f0 := hB.free 0
  have f1 := hB.free 1
  simp only [List.getElem?_cons_zero, List.getElem?_cons_succ] at c0 c1
  cases ws with
  | nil =>
    clear hB hRd hne hq hqG hGw
    simp only [List.length_nil] at c0
    go_enter Tryz.func89, Tryz.ntmps89
    go_wp2_with fail
    go_ret
    exact ⟨rfl, HR.out, grown_below (Below.refl _ _)⟩
  | cons x ws =>
    obtain ⟨g, off, u, rfl, hu, hc⟩ := hRd.at_ (j := 0) (by simp)
    obtain rfl : u = .string (ba x) := by simpa [strV] using hu.symm
    rw [Nat.add_zero] at hc
    simp only [List.length_cons] at c0 hlc
    clear hu
    have hgr : g ≠ r := hne _ rfl
    unfold maxLen at hcm
    have hn1 : ((ws.length : Int) + 1 == 0) = false := beq_eq_false_iff_ne.2 (by omega)
    by_cases hx : x = t
    · have HM := Lib.hid (show mayA (x :: ws, bad) t = (true, (ws, bad)) by simp [mayA, hx])
      subst hx
      by_cases h1 : c = 1
      · subst h1
        obtain rfl : ws = [] := List.eq_nil_of_length_eq_zero (by omega)
        have HX := Lib.hid (ard_tail (o' := off) (c' := 0) hB hRd hgr (by simp) (by simp) (by unfold maxLen; omega) hq (hqG _ rfl) hGw)
        clear hB hRd hne hq hqG hGw
        simp only [List.length_nil] at c0 hlc
        go_enter Tryz.func89, Tryz.ntmps89
        go_wp2_with fail
        go_ret
        exact ⟨by rw [HM.out]; rfl, by rw [HM.out]; exact HX.out, grown_setR _ _ _ _⟩
      · have HX := Lib.hid (ard_tail (o' := off + 1) (c' := c - 1) hB hRd hgr (by simp) (by omega) (by unfold maxLen; omega) hq (hqG _ rfl) hGw)
        clear hB hRd hne hq hqG hGw
        go_enter Tryz.func89, Tryz.ntmps89
        go_wp2_with fail
        go_ret
        exact ⟨by rw [HM.out]; rfl, by rw [HM.out]; exact HX.out, grown_setR _ _ _ _⟩
    · have HM := Lib.hid (show mayA (x :: ws, bad) t = (false, (x :: ws, bad)) by simp [mayA, hx])
      have hxb := ba_ne hx
      clear hB hRd hne hq hqG hGw hx
      go_enter Tryz.func89, Tryz.ntmps89
      go_wp2_with fail
      go_ret
      exact ⟨by rw [HM.out]; rfl, by rw [HM.out]; exact HR.out, grown_below (Below.refl _ _)⟩
set_option maxRecDepth 100000 in
set_option maxHeartbeats 1600000 in
theorem anumber_any {r G : Nat} {s : AS} (w : World) (x : List UInt8) (hx : x.length ≤ 1100000) (h : ARd w r G s) :
    Calls Tryz.prog 92 #[.pointer (some ⟨r, 0, none⟩), .string (ba x)] w (SomeR r G w intV (numberA s x)) := by
  have HR := Lib.hid h
  have HP := Lib.hid (fun (w1 : World) => parse_any (ba x) w1 (by unfold maxLen; rw [ba_size]; omega))
  rw [ba_data] at HP
  have HM := Lib.hid (show numberA s x = if (parseL x).2 = 0 ∧ (parseL x).1 ≤ 1099511627776 then ((((parseL x).1 : Nat) : Int), s) else (0, badA s true) from rfl)
  generalize parseL x = v at *
  obtain ⟨v, e0⟩ := v
  have hrl := h.lt
  obtain ⟨p, cc, hB, _⟩ := h
  have c0 := hB.cell 0
  have c1 := hB.cell 1
  have f0 := hB.free 0
  have f1 := hB.free 1
  simp only [List.getElem?_cons_zero, List.getElem?_cons_succ] at c0 c1
  clear hB
  by_cases h0 : e0 = 0
  · subst h0
    by_cases hv : v ≤ 1099511627776
    · have hvi : ¬ (1099511627776 : Int) < v := by omega
      have HM2 := Lib.hid (show numberA s x = (((v : Nat) : Int), s) by rw [HM.out]; simp [hv])
      have hvw : IntKind.i64.wrap (v : Int) = v := IntWalk.i64_in _ (by omega)
      go_enter Tryz.func92, Tryz.ntmps92
      go_wp2_with fail
      refine (HP.out _).mono ?_
      rintro e w2 ⟨rfl, k, rfl⟩
      go_wp2_with fail
      go_ret
      exact ⟨by rw [HM2.out]; rfl, by rw [HM2.out]; exact HR.out.dn _, grown_below (below_drewN (Below.refl _ _) _)⟩
    · have hvi : (1099511627776 : Int) < v := by omega
      have HM2 := Lib.hid (show numberA s x = (0, badA s true) by rw [HM.out]; simp [hv])
      go_enter Tryz.func92, Tryz.ntmps92
      go_wp2_with fail
      refine (HP.out _).mono ?_
      rintro e w2 ⟨rfl, k, rfl⟩
      go_wp2_with fail
      go_ret
      refine ⟨by rw [HM2.out]; rfl, ?_, grown_thenR (grown_below (below_drewN (Below.refl _ _) _)) (grown_setR _ _ _ _)⟩
      rw [HM2.out]
      simpa [badA] using (HR.out.dn k).bad true
  · have h0b : ((e0 : Int) != 0) = true := bne_iff_ne.2 (by omega)
    have HM2 := Lib.hid (show numberA s x = (0, badA s true) by rw [HM.out]; simp [h0])
    clear h0
    go_enter Tryz.func92, Tryz.ntmps92
    go_wp2_with fail
    refine (HP.out _).mono ?_
    rintro e w2 ⟨rfl, k, rfl⟩
    go_wp2_with fail
    go_ret
    refine ⟨by rw [HM2.out]; rfl, ?_, grown_thenR (grown_below (below_drewN (Below.refl _ _) _)) (grown_setR _ _ _ _)⟩
    rw [HM2.out]
    simpa [badA] using (HR.out.dn k).bad true
set_option maxRecDepth 100000 in
set_option maxHeartbeats 1600000 in
theorem areg_any {r G : Nat} {s : AS} (w : World) (h : ARd w r G s) :
    Calls Tryz.prog 66 #[.pointer (some ⟨r, 0, none⟩)] w (SomeR r G w intV (regA s)) := by
  have HN := Lib.hid (anext_any w h)
  have HM := Lib.hid (show regA s = match regN (ba (nextA s).1) with | some j => (((j : Nat) : Int), (nextA s).2) | none => (0, badA (nextA s).2 true) from rfl)
  generalize nextA s = y at *
  obtain ⟨x, s2⟩ := y
  obtain ⟨ws, bad⟩ := s2
  have HP := Lib.hid (fun (w1 : World) => numberOf_any (ba x) w1)
  cases hx : regN (ba x) with
  | some j =>
    rw [hx] at HP
    have HM2 := Lib.hid (show regA s = (((j : Nat) : Int), (ws, bad)) by rw [HM.out]; simp [hx])
    clear hx h
    go_enter Tryz.func66, Tryz.ntmps66
    go_wp2_with fail
    refine (HN.out).mono ?_
    rintro e w2 ⟨rfl, hr, hg⟩
    have HR := Lib.hid hr
    have HG := Lib.hid hg
    have hrl := hr.lt
    obtain ⟨p, cc, hB, _⟩ := hr
    have c0 := hB.cell 0
    have c1 := hB.cell 1
    have f0 := hB.free 0
    have f1 := hB.free 1
    simp only [List.getElem?_cons_zero, List.getElem?_cons_succ] at c0 c1
    clear hB
    clear hg HN
    go_wp2_with fail
    refine (HP.out _).mono ?_
    rintro e w3 ⟨rfl, k, rfl⟩
    simp only [regNV]
    have HB := Lib.hid ((HR.out.dn k).bad false)
    cases bad
    all_goals
      go_wp2_with fail
      go_ret
      refine ⟨by rw [HM2.out]; rfl, by rw [HM2.out]; simpa [badA] using HB.out, grown_thenR (grown_thenR HG.out (grown_below (below_drewN (Below.refl _ _) _))) (grown_setR _ _ _ _)⟩
  | none =>
    rw [hx] at HP
    have HM2 := Lib.hid (show regA s = (0, badA (ws, bad) true) by rw [HM.out]; simp [hx])
    clear hx h
    go_enter Tryz.func66, Tryz.ntmps66
    go_wp2_with fail
    refine (HN.out).mono ?_
    rintro e w2 ⟨rfl, hr, hg⟩
    have HR := Lib.hid hr
    have HG := Lib.hid hg
    have hrl := hr.lt
    obtain ⟨p, cc, hB, _⟩ := hr
    have c0 := hB.cell 0
    have c1 := hB.cell 1
    have f0 := hB.free 0
    have f1 := hB.free 1
    simp only [List.getElem?_cons_zero, List.getElem?_cons_succ] at c0 c1
    clear hB
    clear hg HN
    go_wp2_with fail
    refine (HP.out _).mono ?_
    rintro e w3 ⟨rfl, k, rfl⟩
    simp only [regNV]
    have HB := Lib.hid ((HR.out.dn k).bad true)
    cases bad
    all_goals
      go_wp2_with fail
      go_ret
      refine ⟨by rw [HM2.out]; rfl, by rw [HM2.out]; simpa [badA] using HB.out, grown_thenR (grown_thenR HG.out (grown_below (below_drewN (Below.refl _ _) _))) (grown_setR _ _ _ _)⟩
end Go.Proofs.YtcaifejfkpmeeaaGreat
