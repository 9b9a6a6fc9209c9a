/- granuleref04.Words: the document's parts of a text. -/
import Derived.Test.YtlhkjjfdmglabaaAsmWords
namespace Go.Proofs.Ytlhkjjfdmglabaa
open Go.RowKit
set_option linter.unusedVariables false
set_option linter.unusedSimpArgs false

/-- A word that is open ahead of what follows. -/
def glue2 (w : List UInt8) (t : List UInt8) : List (List UInt8) :=
  match t, wordsL t with
  | d :: _, v :: ws => if wc d then (w ++ v) :: ws else w :: v :: ws
  | _, ws => w :: ws
theorem glue2_nil (w : List UInt8) : glue2 w [] = [w] := rfl
theorem glue2_not (w : List UInt8) {c : UInt8} (h : wc c = false) (t : List UInt8) : glue2 w (c :: t) = w :: wordsL (c :: t) := by
  unfold glue2
  cases hh : wordsL (c :: t) with
  | nil => rfl
  | cons v ws => simp [h]
theorem glue2_one {c : UInt8} (h : wc c = true) (t : List UInt8) : wordsL (c :: t) = glue2 [c] t := by
  obtain ⟨h1, h2⟩ := wc_not h
  rw [wordsL, h1, h2]
  simp only [Bool.false_eq_true, if_false]
  cases t with
  | nil => rfl
  | cons d t =>
    unfold glueW glue2
    cases hh : wordsL (d :: t) with
    | nil => rfl
    | cons v ws => rfl
theorem glue2_more (w : List UInt8) {c : UInt8} (h : wc c = true) (t : List UInt8) : glue2 w (c :: t) = glue2 (w ++ [c]) t := by
  have e : glue2 w (c :: t) = match glue2 [c] t with | v :: ws => (w ++ v) :: ws | [] => [w] := by
    rw [← glue2_one h]
    unfold glue2
    obtain ⟨v, ws, hv⟩ := wordsL_ne h t
    rw [hv]; simp [h]
  rw [e]
  cases t with
  | nil => simp [glue2_nil]
  | cons d t =>
    unfold glue2
    cases hh : wordsL (d :: t) with
    | nil => rfl
    | cons v ws => cases hd : wc d <;> simp [hd]
def RefI (l : List UInt8) (i : Nat) : Bool → List (List UInt8) → Prop
  | false, acc => acc ++ wordsL (l.drop i) = wordsL l
  | true, acc => ∃ a w, acc = a ++ [w] ∧ a ++ glue2 w (l.drop i) = wordsL l
theorem refI_close {l : List UInt8} {i : Nat} {o : Bool} {acc : List (List UInt8)} {c : UInt8} (h : RefI l i o acc) (hx : l[i]? = some c) (hw : wc c = false) : acc ++ wordsL (l.drop i) = wordsL l := by
  cases o with
  | false => exact h
  | true =>
    obtain ⟨a, w, rfl, h2⟩ := h
    rw [words_at hx] at h2 ⊢
    rw [glue2_not w hw] at h2
    simpa using h2
theorem refI_end {l : List UInt8} {o : Bool} {acc : List (List UInt8)} (h : RefI l l.length o acc) : acc = wordsL l := by
  cases o with
  | false => unfold RefI at h; simpa [wordsL] using h
  | true =>
    obtain ⟨a, w, rfl, h2⟩ := h
    rw [List.drop_length, glue2_nil] at h2; exact h2
theorem refI_blank {l : List UInt8} {i : Nat} {o : Bool} {acc : List (List UInt8)} {c : UInt8} (h : RefI l i o acc) (hx : l[i]? = some c) (hb : blankC c = true) : RefI l (i + 1) false acc :=
  words_blank hx hb (refI_close h hx (by simp [wc, hb]))
theorem refI_own {l : List UInt8} {i : Nat} {o : Bool} {acc : List (List UInt8)} {c : UInt8} (h : RefI l i o acc) (hx : l[i]? = some c) (hb : blankC c = false) (ho : ownC c = true) : RefI l (i + 1) false (acc ++ [[c]]) :=
  words_own hx hb ho (refI_close h hx (by simp [wc, ho]))
theorem refI_first {l : List UInt8} {i : Nat} {acc : List (List UInt8)} {c : UInt8} (h : RefI l i false acc) (hx : l[i]? = some c) (hw : wc c = true) : RefI l (i + 1) true (acc ++ [[c]]) := by
  refine ⟨acc, [c], rfl, ?_⟩
  unfold RefI at h
  rw [words_at hx, glue2_one hw] at h
  exact h
theorem refI_more {l : List UInt8} {i : Nat} {acc : List (List UInt8)} {c : UInt8} (h : RefI l i true acc) (hx : l[i]? = some c) (hw : wc c = true) : ∃ a w, acc = a ++ [w] ∧ RefI l (i + 1) true (a ++ [w ++ [c]]) := by
  obtain ⟨a, w, rfl, h2⟩ := h
  refine ⟨a, w, rfl, a, w ++ [c], rfl, ?_⟩
  rw [words_at hx, glue2_more w hw] at h2
  exact h2
theorem refI_len {l : List UInt8} {i : Nat} {o : Bool} {acc : List (List UInt8)} (h : RefI l i o acc) : acc.length ≤ l.length := by
  have h1 := wordsL_len l
  cases o with
  | false => exact words_inv h
  | true =>
    obtain ⟨a, w, rfl, h2⟩ := h
    rw [← h2] at h1
    have : 1 ≤ (glue2 w (l.drop i)).length := by unfold glue2; split <;> first | (split <;> simp) | simp
    simp at h1 ⊢; omega
/-- A word is no longer than the text. -/
theorem rown_any (x : UInt8) (w : World) : Calls Try.prog 32 #[.int .u8 x.toNat] w fun e w' => e = .returned (.bool (ownC x)) ∧ w = w' := by
  have e3 := ceq x 44 (by decide)
  have e4 := ceq x 91 (by decide)
  have e5 := ceq x 93 (by decide)
  simp only [Int.ofNat_eq_natCast, Int.cast_ofNat_Int] at e3 e4 e5
  have HO := Lib.hid (show ownC x = (x == UInt8.ofNat 44 || x == UInt8.ofNat 91 || x == UInt8.ofNat 93) from rfl)
  cases c3 : (x == UInt8.ofNat 44) <;> cases c4 : (x == UInt8.ofNat 91) <;> cases c5 : (x == UInt8.ofNat 93)
  all_goals
    rw [c3] at e3 HO
    rw [c4] at e4 HO
    rw [c5] at e5 HO
    clear c3 c4 c5
    go_enter Try.func32, Try.ntmps32
    go_wp2_with fail
    go_ret
    exact ⟨by rw [HO.out]; rfl, rfl⟩
def RefW (base : Nat) (w0 w : World) (v : Value) (l : List UInt8) (i : Nat) (o : Bool) (acc : List (List UInt8)) : Prop :=
  RefI l i o acc ∧ w.ownsRow base 9 1 v acc.length (acc.map strV) ∧ Below base w0 w ∧ ∀ q ∈ acc, q.length ≤ i
theorem refW_add {w0 w w' : World} {v v' : Value} {l : List UInt8} {i : Nat} {o o' : Bool} {c : UInt8} {acc : List (List UInt8)} (h : RefW w0.heap.size w0 w v l i o acc) (hs : RefI l (i + 1) o' (acc ++ [[c]]))
    (hv : w'.ownsRow w0.heap.size 9 1 v' (acc.length + 1) (acc.map strV ++ [.string (ba [c])])) (hB : Below w0.heap.size w w') : RefW w0.heap.size w0 w' v' l (i + 1) o' (acc ++ [[c]]) := by
  obtain ⟨h1, h2, h3, h4⟩ := h
  refine ⟨hs, by simpa [strV] using hv, h3.trans hB, fun q hq => ?_⟩
  simp only [List.mem_append, List.mem_singleton] at hq
  rcases hq with hq | rfl
  · exact Nat.le_succ_of_le (h4 q hq)
  · simp
theorem refW_last {w0 w : World} {g cap : Nat} {l : List UInt8} {i : Nat} {c : UInt8} {a : List (List UInt8)} {wd : List UInt8} (h : RefW w0.heap.size w0 w (.slice (some ⟨g, 0, none⟩) (a ++ [wd]).length cap) l i true (a ++ [wd])) (hs : RefI l (i + 1) true (a ++ [wd ++ [c]])) :
    RefW w0.heap.size w0 (w.drew.setCell ⟨g, a.length, none⟩ (.string (ba (wd ++ [c])))) (.slice (some ⟨g, 0, none⟩) (a ++ [wd]).length cap) l (i + 1) true (a ++ [wd ++ [c]]) := by
  obtain ⟨h1, h2, h3, h4⟩ := h
  obtain ⟨g', cap', hv, hbg, _⟩ := own_open h2 (by simp)
  simp only [Value.slice.injEq, Option.some.injEq, Addr.mk.injEq, and_true, true_and] at hv
  obtain ⟨rfl, rfl⟩ := hv
  have h5 := (h2.drew).stored a.length (.string (ba (wd ++ [c])))
  refine ⟨hs, ?_, (Below.drew h3).setCell hbg _, fun q hq => ?_⟩
  · have h6 := h5.1
    have e : ((a ++ [wd]).map strV).set a.length (.string (ba (wd ++ [c]))) = (a ++ [wd ++ [c]]).map strV := by
      simp [strV]
    rw [e] at h6
    simpa using h6
  · simp only [List.mem_append, List.mem_singleton] at hq
    rcases hq with hq | rfl
    · exact Nat.le_succ_of_le (h4 q (by simp [hq]))
    · have := h4 wd (by simp)
      simp; omega
theorem cat_big {P : Program} (a b : List UInt8) (h : a.length + b.length ≤ 4000000) (w : World) : (Op.stringOp .add (ba a) (ba b)).run P w = .ok (.string (ba (a ++ b))) w := by
  rw [run_string_add_sum w _ _ (by rw [ba_size, ba_size]; omega), ba_append]
set_option maxRecDepth 100000 in
set_option maxHeartbeats 3200000 in
theorem rwords_any (s : ByteArray) (w : World) (hs : s.size ≤ 1100000) :
    Calls Try.prog 14 #[.string s] w (SomeWords s.data.toList w) := by
  have HSZ := Lib.hid (show s.data.toList.length = s.size by rw [← Lib.size_eq])
  go_enter Try.func14, Try.ntmps14
  go_wp2_with fail
  go_loopw [3, 4, 5] (fun v ov i wr => ∃ (k : Nat) (o : Bool) (acc : List (List UInt8)), k ≤ s.size ∧ i = .int .i64 k ∧ ov = .bool o ∧ RefW w.heap.size w wr v s.data.toList k o acc) (fun _ _ i _ => s.size - (intOf i).toNat)
  case atStart => exact ⟨0, false, [], by omega, rfl, rfl, rfl, ⟨rfl, .inl ⟨rfl, rfl⟩⟩, Below.refl _ _, by simp⟩
  case round =>
    obtain ⟨k, o, acc, hk, rfl, rfl, hI⟩ := hrel
    have HI := Lib.hid hI
    have hacc : acc.length ≤ s.size := by rw [← HSZ.out]; exact refI_len hI.1
    clear hI
    by_cases hlt : k < s.size
    · have hk0 : (0 : Int) ≤ k := by omega
      obtain ⟨x, hx⟩ : ∃ x : UInt8, s[k]'hlt = x := ⟨_, rfl⟩
      have HX := Lib.hid (show s.data.toList[k]? = some x by rw [← hx]; exact Lib.data_getElem? s k hlt)
      have HW := Lib.hid (fun (w1 : World) => rown_any x w1)
      have e1 := ceq x 32 (by decide)
      have e2 := ceq x 9 (by decide)
      simp only [Int.ofNat_eq_natCast, Int.cast_ofNat_Int] at e1 e2
      cases hb : blankC x
      · have c0 : (x == UInt8.ofNat 32) = false := by unfold blankC at hb; simp only [UInt8.reduceOfNat]; simp at hb; simp [hb.1]
        have c1 : (x == UInt8.ofNat 9) = false := by unfold blankC at hb; simp only [UInt8.reduceOfNat]; simp at hb; simp [hb.2]
        rw [c0] at e1
        rw [c1] at e2
        have HBL := Lib.hid hb
        clear c0 c1 hb
        cases ho : ownC x
        · have HOW := Lib.hid (show wc x = true by simp [wc, ho, HBL.out])
          rw [ho] at HW
          clear ho
          cases o
          · obtain ⟨p, c, rfl, _⟩ := own_form HI.out.2.1
            have HO := Lib.hid HI.out.2.1
            have HZ := Lib.hid HI.out.2.2.1.size
            have HIN := Lib.hid (fun v' w' h1 h2 => refW_add (v' := v') (w' := w') HI.out (refI_first HI.out.1 HX.out HOW.out) h1 h2)
            rw [← ext_one HX.out] at HIN
            clear HI
            go_wp2_with (at_builtin; refine app1s rfl _ _ 30 rfl w.heap.size 9 _ 1 16 el_str rfl (by decide) _ _ _ rfl HO.out [.string (s.extract k (k + 1))] rfl _ rfl rfl (by simp [Value.oneCell']) ?c1 ?c2 ?c3 ?_)
            case c1 => unfold maxLen; omega
            case c2 => omega
            case c3 => have := HZ.out; omega
            intro v' w' ho' _ hb'
            have HIF := Lib.hid (HIN.out v' w' ho' hb')
            clear ho' hb' HO HIN HZ
            go_wp2_with fail
            refine (HW.out _).mono ?_
            rintro e w9 ⟨rfl, rfl⟩
            go_wp2_with fail
            go_roundw
            case rel => exact ⟨k + 1, true, _, by omega, by go_num, rfl, HIF.out⟩
            case measure => simp [intOf] <;> omega
          · obtain ⟨a, wd, rfl, hM⟩ := refI_more HI.out.1 HX.out HOW.out
            have hwl := HI.out.2.2.2 wd (by simp)
            have HO := Lib.hid HI.out.2.1
            obtain ⟨g, cap, rfl, hbg, hgl, hnc, hcap, hcell, hfz⟩ := own_open HI.out.2.1 (by simp)
            have hla : (a ++ [wd]).length = a.length + 1 := by simp
            have HOL := Lib.hid (refW_last HI.out hM)
            rw [hla] at hnc HOL HO hacc ⊢
            have c1 : wr.cell? ⟨g, a.length, none⟩ = some (.string (ba wd)) := by
              rw [hcell _ (by simp)]
              simp [strV]
            have f1 := hfz a.length
            clear hcell hfz hla HI hM
            generalize a.length = n at *
            have hn0 : (0 : Int) ≤ n := by omega
            have hn1 : (n : Int) < (n : Int) + 1 := by omega
            have hw1 : IntKind.i64.wrap (n : Int) = n := IntWalk.i64_in _ (by omega)
            have hw2 : IntKind.i64.wrap ((k : Int) + 1) = (k : Int) + 1 := IntWalk.i64_in _ (by omega)
            have hk1 : (k : Int) ≤ (k : Int) + 1 := by omega
            have hk2 : (k : Int) + 1 ≤ (s.size : Int) := by omega
            have hcat : ∀ wx : World, (Op.stringOp .add (ba wd) (s.extract k (k + 1))).run Try.prog wx = .ok (.string (ba (wd ++ [x]))) wx := fun wx => by rw [ext_one HX.out]; exact cat_big wd [x] (by simp; omega) wx
            go_wp2_with fail
            refine (HW.out _).mono ?_
            rintro e w9 ⟨rfl, rfl⟩
            go_wp2_with fail
            refine region_tail 17 (by kernel_rfl) (by kernel_rfl) ?_
            simp only [List.take_succ_cons, List.take_zero, List.drop_succ_cons, List.drop_zero]
            repeat still_step
            refine wpStill_nil ?_
            go_wp2_with fail
            refine (HW.out _).mono ?_
            rintro e w9 ⟨rfl, rfl⟩
            go_wp2_with fail
            go_roundw
            case rel => exact ⟨k + 1, true, _, by omega, by go_num, rfl, HOL.out⟩
            case measure => simp [intOf] <;> omega
        · have HOW := Lib.hid ho
          rw [ho] at HW
          clear ho
          cases o
          · obtain ⟨p, c, rfl, _⟩ := own_form HI.out.2.1
            have HO := Lib.hid HI.out.2.1
            have HZ := Lib.hid HI.out.2.2.1.size
            have HIN := Lib.hid (fun v' w' h1 h2 => refW_add (v' := v') (w' := w') HI.out (refI_own HI.out.1 HX.out HBL.out HOW.out) h1 h2)
            rw [← ext_one HX.out] at HIN
            clear HI
            go_wp2_with (at_builtin; refine app1s rfl _ _ 30 rfl w.heap.size 9 _ 1 16 el_str rfl (by decide) _ _ _ rfl HO.out [.string (s.extract k (k + 1))] rfl _ rfl rfl (by simp [Value.oneCell']) ?c1 ?c2 ?c3 ?_)
            case c1 => unfold maxLen; omega
            case c2 => omega
            case c3 => have := HZ.out; omega
            intro v' w' ho' _ hb'
            have HIF := Lib.hid (HIN.out v' w' ho' hb')
            clear ho' hb' HO HIN HZ
            go_wp2_with fail
            refine (HW.out _).mono ?_
            rintro e w9 ⟨rfl, rfl⟩
            go_wp2_with fail
            go_roundw
            case rel => exact ⟨k + 1, false, _, by omega, by go_num, rfl, HIF.out⟩
            case measure => simp [intOf] <;> omega
          · obtain ⟨p, c, rfl, _⟩ := own_form HI.out.2.1
            have HO := Lib.hid HI.out.2.1
            have HZ := Lib.hid HI.out.2.2.1.size
            have HIN := Lib.hid (fun v' w' h1 h2 => refW_add (v' := v') (w' := w') HI.out (refI_own HI.out.1 HX.out HBL.out HOW.out) h1 h2)
            rw [← ext_one HX.out] at HIN
            clear HI
            go_wp2_with fail
            refine (HW.out _).mono ?_
            rintro e w9 ⟨rfl, rfl⟩
            go_wp2_with (at_builtin; refine app1s rfl _ _ 30 rfl w.heap.size 9 _ 1 16 el_str rfl (by decide) _ _ _ rfl HO.out [.string (s.extract k (k + 1))] rfl _ rfl rfl (by simp [Value.oneCell']) ?c1 ?c2 ?c3 ?_)
            case c1 => unfold maxLen; omega
            case c2 => omega
            case c3 => have := HZ.out; omega
            intro v' w' ho' _ hb'
            have HIF := Lib.hid (HIN.out v' w' ho' hb')
            clear ho' hb' HO HIN HZ
            go_wp2_with fail
            refine (HW.out _).mono ?_
            rintro e w9 ⟨rfl, rfl⟩
            go_wp2_with fail
            go_roundw
            case rel => exact ⟨k + 1, false, _, by omega, by go_num, rfl, HIF.out⟩
            case measure => simp [intOf] <;> omega
      · have HB := Lib.hid (show RefW w.heap.size w wr _ s.data.toList (k + 1) false acc from ⟨refI_blank HI.out.1 HX.out hb, HI.out.2.1, HI.out.2.2.1, fun q hq => Nat.le_succ_of_le (HI.out.2.2.2 q hq)⟩)
        cases c0 : (x == UInt8.ofNat 32)
        · have c1 : (x == UInt8.ofNat 9) = true := by unfold blankC at hb; simp only [UInt8.reduceOfNat] at c0 ⊢; simpa [c0] using hb
          rw [c0] at e1
          rw [c1] at e2
          clear c0 c1 hb HI
          go_wp2_with fail
          go_roundw
          case rel => exact ⟨k + 1, false, acc, by omega, by go_num, rfl, HB.out⟩
          case measure => simp [intOf] <;> omega
        · rw [c0] at e1
          clear c0 hb HI
          go_wp2_with fail
          go_roundw
          case rel => exact ⟨k + 1, false, acc, by omega, by go_num, rfl, HB.out⟩
          case measure => simp [intOf] <;> omega
    · obtain rfl : k = s.size := by omega
      have HF := Lib.hid (show acc = wordsL s.data.toList by have := HI.out.1; rw [← HSZ.out] at this; exact refI_end this)
      go_wp2_with fail
      go_ret
      exact ⟨_, rfl, by rw [← HF.out]; exact HI.out.2.1, HI.out.2.2.1⟩
end Go.Proofs.Ytlhkjjfdmglabaa
