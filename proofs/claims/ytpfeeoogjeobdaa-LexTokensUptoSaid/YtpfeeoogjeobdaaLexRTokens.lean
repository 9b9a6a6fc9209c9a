/- The contract of the reference's Tokens. -/
import Derived.Test.YtpfeeoogjeobdaaLexTokens
import Derived.Test.YtpfeeoogjeobdaaLexRows
import Derived.Test.YtpfeeoogjeobdaaRParseWalk
namespace Go.Proofs.Ytpfeeoogjeobdaa
open Go.RowKit
set_option linter.unusedVariables false

def RTokInv (s : ByteArray) (at_ : Nat) (w : World) (i : Nat) (v : Value) (acc : List (Nat × Nat × Nat)) (wr : World) : Prop :=
  acc.length ≤ i ∧ toksF s i acc = toksF s 0 [] ∧ wr.ownsRow w.heap.size 38 3 v acc.length (tokCells s at_ acc) ∧ Below w.heap.size w wr
section
variable {s : ByteArray} {at_ : Nat} {w wr w' : World} {i n k : Nat} {v v' : Value} {acc : List (Nat × Nat × Nat)}
theorem RTokInv.below (h : RTokInv s at_ w i v acc wr) (hb : Below wr.heap.size wr w') : RTokInv s at_ w i v acc w' := by
  obtain ⟨h1, h2, h3, h4⟩ := h
  exact ⟨h1, h2, own_below h3 hb, below_trans h4 hb⟩
theorem RTokInv.skip (h : RTokInv s at_ w i v acc wr) (hi : i < s.size) (hb : blankB (bt s i) = true) : RTokInv s at_ w (i + 1) v acc wr := by
  obtain ⟨h1, h2, h3⟩ := h
  exact ⟨by omega, by rw [← h2, toksF_skip hi hb], h3⟩
theorem RTokInv.add {c : Nat} (h : RTokInv s at_ w i v acc wr) (hi : i < s.size) (hs : stepF s i = (k, n, c)) (hk : k = 1 ∨ k = 2 ∨ k = 3) (hn : i < n)
    (ho : w'.ownsRow w.heap.size 38 3 v' (acc.length + 1) (tokCells s at_ acc ++ [.int .i64 (k : Nat), .string (s.extract i n), .int .i64 ((at_ : Int) + (i : Nat))])) (hb : Below w.heap.size wr w') : RTokInv s at_ w n v' (acc ++ [(k, i, n)]) w' := by
  obtain ⟨h1, h2, h3, h4⟩ := h
  exact ⟨by simp; omega, by rw [← h2, toksF_tok hi hs hk hn], by rw [tokCells_snoc, List.length_append]; exact ho, h4.trans hb⟩
end
def RTokPost (s : ByteArray) (at_ : Nat) (w : World) (e : Ending) (w' : World) : Prop :=
  ∃ v, e = .returned (.tuple #[v, .int .i64 ((toksF s 0 []).2.1 : Nat), .int .i64 (toksAt at_ (toksF s 0 []))]) ∧ w'.ownsRow w.heap.size 38 3 v (toksF s 0 []).1.length (tokCells s at_ (toksF s 0 []).1) ∧ Below w.heap.size w w'
theorem ownsRow_dn {w : World} {base : Nat} {e : TypeId} {size : Nat} {v : Value} {n : Nat} {xs : List Value} (h : w.ownsRow base e size v n xs) (m : Nat) : (w.drewN m).ownsRow base e size v n xs := h
theorem results_tmp3 {P : Program} {fn : Func} {u v x : Tmp} (h : fn.results = #[.tmp u, .tmp v, .tmp x]) (tmps : Array Value) (w : World) : (results fn tmps).run P w = .ok (.tuple #[tmps.getD u undef, tmps.getD v undef, tmps.getD x undef]) w := by
  simp only [results, h]
  simp
theorem rtok_bad {s : ByteArray} {at_ : Nat} {w W : World} {A : Act} {i : Nat} {acc : List (Nat × Nat × Nat)} {c n : Nat} (HF : toksF s i acc = toksF s 0 []) (hi : i < s.size) (hs : stepF s i = (9, n, c)) (hc : c ≠ 0) (hd : A.defers = []) (h4 : A.tmps.getD 4 undef = .slice none 0 0) (h5 : A.tmps.getD 5 undef = .int .i64 (c : Nat)) (h6 : A.tmps.getD 6 undef = .int .i64 ((at_ : Int) + (i : Nat)))
    (HW : Below w.heap.size w W) : bodyPost Try.prog Try.f9 (RTokPost s at_ w) .ret A W := by
  refine bodyPost_ret (results_tmp3 rfl _ _) hd ⟨A.tmps.getD 4 undef, ?_, ?_, HW⟩
  · rw [← HF, toksF_bad hi hs, h5, h6]; unfold toksAt; rw [if_neg hc]
  · rw [← HF, toksF_bad hi hs, h4]; exact World.ownsRow_nil _ _ _ _
theorem rtok_end {s : ByteArray} {at_ : Nat} {w W : World} {A : Act} {acc : List (Nat × Nat × Nat)} {v : Value} (HF : toksF s s.size acc = toksF s 0 []) (hd : A.defers = []) (h4 : A.tmps.getD 4 undef = v) (h5 : A.tmps.getD 5 undef = .int .i64 0) (h6 : A.tmps.getD 6 undef = .int .i64 0)
    (ho : W.ownsRow w.heap.size 38 3 v (acc.length + 1) (tokCells s at_ acc ++ [.int .i64 4, .string ⟨#[]⟩, .int .i64 ((at_ : Int) + (s.size : Nat))])) (HW : Below w.heap.size w W) : bodyPost Try.prog Try.f9 (RTokPost s at_ w) .ret A W := by
  refine bodyPost_ret (results_tmp3 rfl _ _) hd ⟨A.tmps.getD 4 undef, ?_, ?_, HW⟩
  · rw [← HF, toksF_end (by omega), h5, h6]; rfl
  · rw [← HF, toksF_end (by omega), h4]; simp only [tokCells_snoc, List.length_append]; rw [empty_at_end]; exact ho

set_option maxRecDepth 100000 in
set_option maxHeartbeats 4000000 in
theorem rtokens_any (s : ByteArray) (at_ : Nat) (w : World) (hs : s.size ≤ 1048576) (hat : at_ ≤ 1099511627776) :
    Calls Try.prog 9 #[.string s, .int .i64 at_] w (RTokPost s at_ w) := by
  have H0 := Lib.hid (show RTokInv s at_ w 0 (.slice none 0 0) [] w from ⟨Nat.le_refl _, rfl, World.ownsRow_nil _ _ _ _, Below.refl _ _⟩)
  go_enter Try.func9, Try.ntmps9
  go_wp2_with fail
  go_loopw [7, 8] (fun v i wr => ∃ (k : Nat) (acc : List (Nat × Nat × Nat)), k ≤ s.size ∧ i = .int .i64 k ∧ RTokInv s at_ w k v acc wr) (fun _ i _ => s.size - (intOf i).toNat)
  case atStart => exact ⟨0, [], by omega, rfl, H0.out⟩
  case round =>
    clear H0
    obtain ⟨i, acc, hi, rfl, hI⟩ := hrel
    obtain ⟨wo, rfl⟩ : ∃ wo : World, wo = wr := ⟨_, rfl⟩
    have HI := Lib.hid hI
    have HO := Lib.hid hI.2.2.1
    obtain ⟨p, c, rfl, _⟩ := own_form hI.2.2.1
    have hacc : acc.length ≤ i := hI.1
    clear hI
    by_cases hlt : i < s.size
    · have HB := Lib.hid (bt_eq hlt)
      cases hb : blankB (s[i].toNat : Int)
      · have HSE := Lib.hid (show (s.extract i s.size).size = s.size - i from by simp)
        have HBF := Lib.hid (show blankB (bt s i) = false from by rw [HB.out]; exact hb)
        have hle : signB (s.extract i s.size) ≤ s.size - i := by have := signB_le (t := s.extract i s.size) (by rw [HSE.out]; omega); rw [HSE.out] at this; exact this
        have HSC := Lib.hid (fun w1 => signs_any (s.extract i s.size) w1 (by rw [HSE.out]; omega) (by rw [HSE.out]; omega))
        have hwi : IntKind.i64.wrap ((at_ : Int) + (i : Int)) = (at_ : Int) + (i : Int) := IntWalk.i64_in _ (by omega)
        go_wp2_with (first | (go_at_call 22; refine (rblank_any _ _).mono ?_; rintro e w' ⟨rfl, rfl⟩))
        refine (HSC.out _).mono ?_
        rintro e w2 ⟨rfl, hb2⟩
        have HI2 := Lib.hid (HI.out.below hb2)
        clear hb2 HI HO
        have HO := Lib.hid HI2.out.2.2.1
        have HZ := Lib.hid HI2.out.2.2.2.size
        by_cases hn : 0 < signB (s.extract i s.size)
        · have HST := Lib.hid (stepF_sign HBF.out hn)
          generalize signB (s.extract i s.size) = n at *
          obtain ⟨m, hm⟩ : ∃ m, m = i + n := ⟨_, rfl⟩
          have HM := Lib.hid hm
          have hwn : IntKind.i64.wrap ((i : Int) + (n : Int)) = (m : Int) := (IntWalk.i64_in _ (by omega)).trans (by omega)
          have hz1 : (m : Int) ≤ s.size := by omega
          have hz2 : (i : Int) ≤ m := by omega
          rw [← hm] at HST
          clear hm
          go_wp2_with (at_builtin; refine app1s rfl _ _ 23 rfl w.heap.size 38 _ 3 32 el_tok rfl (by decide) _ _ _ rfl HO.out [.int .i64 (3 : Nat), .string (s.extract i m), .int .i64 ((at_ : Int) + (i : Nat))] rfl _ rfl rfl (by simp [Value.oneCell']) ?c1 ?c2 ?c3 ?_)
          case c1 => unfold maxLen; omega
          case c2 => omega
          case c3 => exact HZ.out
          intro v' w' ho' hg' hb'
          have HI3 := Lib.hid (HI2.out.add hlt HST.out (Or.inr (Or.inr rfl)) (by have := HM.out; omega) ho' hb')
          clear ho' hg' hb' HI2 HO
          go_wp2
          go_roundw
          case rel => exact ⟨m, _, by omega, by have := HM.out; go_num, HI3.out⟩
          case measure => simp [intOf]; have := HM.out; omega
        · have hn0 : signB (s.extract i s.size) = 0 := by omega
          rw [hn0]
          clear hn hle HSC
          have hE := wordE_extract s i hi
          have hEb := wordE_bd s i
          have HX := Lib.hid (show (s.extract i s.size).extract 0 (wordE (s.extract i s.size) 0) = s.extract i (wordE s i) from by
            rw [extract_extract' s i _ (by rw [hE]; exact hEb.2 hi), hE])
          have HFC := Lib.hid (fun w1 => rfirst_any (s.extract i s.size) w1 (by rw [HSE.out]; omega))
          rw [HX.out] at HFC
          have hks : wordE s i ≤ s.size := hEb.2 hi
          have hik : i ≤ wordE s i := hEb.1
          clear HX hE hEb
          cases hl : letterB (s[i].toNat : Int)
          · have HST := Lib.hid (stepF_byte HBF.out hn0 (by rw [HB.out]; exact hl))
            have hemp : (s.extract i (wordE s i)).toList.isEmpty = true := by rw [wordE_eq hlt (by rw [HB.out]; exact hl), extract_empty (by omega)]; exact empty_isEmpty
            generalize wordE s i = k at *
            go_wp2_with (first | (go_at_call 14; refine (HFC.out _).mono ?_; rintro e w' ⟨rfl, rfl⟩))
            exact rtok_bad HI2.out.2.1 hlt HST.out (by decide) rfl rfl rfl rfl HI2.out.2.2.2
          · have HLT := Lib.hid (show letterB (bt s i) = true from by rw [HB.out]; exact hl)
            have hik0 : i < wordE s i := wordE_gt hlt HLT.out
            have hemp : (s.extract i (wordE s i)).toList.isEmpty = false := extract_some hik0 (Nat.le_refl _) hks
            have hsz : (s.extract i (wordE s i)).size = wordE s i - i := by simp; omega
            by_cases h24 : 24 < wordE s i - i
            · have HST := Lib.hid (stepF_long HBF.out hn0 HLT.out h24)
              generalize wordE s i = k at *
              have h24i : (24 : Int) < ((s.extract i k).size : Int) := by rw [hsz]; omega
              go_wp2_with (first | (go_at_call 14; refine (HFC.out _).mono ?_; rintro e w' ⟨rfl, rfl⟩))
              exact rtok_bad HI2.out.2.1 hlt HST.out (by decide) rfl rfl rfl rfl HI2.out.2.2.2
            · have h24i : ((s.extract i (wordE s i)).size : Int) ≤ 24 := by rw [hsz]; omega
              have h0i : (0 : Int) < ((s.extract i (wordE s i)).size : Int) := by rw [hsz]; omega
              have h0n : 0 < (s.extract i (wordE s i)).size := by rw [hsz]; omega
              have hgb : (s.extract i (wordE s i))[0]'h0n = s[i] := by
                have := ByteArray.getElem_extract (b := s) (start := i) (stop := wordE s i) (i := 0) h0n
                simpa using this
              have HDB := Lib.hid (show digitB (s[i].toNat : Int) = (decide ((48 : Int) ≤ (s[i].toNat : Int)) && decide ((s[i].toNat : Int) ≤ 57)) from rfl)
              have hik2 : wordE s i - i ≤ 24 := by omega
              cases hd : digitB (s[i].toNat : Int)
              · have HST := Lib.hid (stepF_word HBF.out hn0 HLT.out h24 (by rw [HB.out]; exact hd))
                generalize wordE s i = k at *
                have hwk : IntKind.i64.wrap ((i : Int) + ((s.extract i k).size : Int)) = (k : Int) := by rw [hsz]; exact (IntWalk.i64_in _ (by omega)).trans (by omega)
                rw [hd] at HDB
                by_cases hd1 : (48 : Int) ≤ (s[i].toNat : Int)
                · have hd2 : ¬ (s[i].toNat : Int) ≤ 57 := by have := HDB.out; intro h; simp [hd1, h] at this
                  go_wp2_with (first | (go_at_call 14; refine (HFC.out _).mono ?_; rintro e w' ⟨rfl, rfl⟩) | (at_builtin; refine app1s rfl _ _ 23 rfl w.heap.size 38 _ 3 32 el_tok rfl (by decide) _ _ _ rfl HO.out [.int .i64 (1 : Nat), .string (s.extract i k), .int .i64 ((at_ : Int) + (i : Nat))] rfl _ rfl rfl (by simp [Value.oneCell']) ?c1 ?c2 ?c3 ?_))
                  case c1 => unfold maxLen; omega
                  case c2 => omega
                  case c3 => exact HZ.out
                  intro v' w' ho' hg' hb'
                  have HI3 := Lib.hid (HI2.out.add hlt HST.out (Or.inl rfl) hik0 ho' hb')
                  clear ho' hg' hb' HI2 HO
                  go_wp2
                  go_roundw
                  case rel => exact ⟨k, _, by omega, by go_num, HI3.out⟩
                  case measure => simp [intOf]; omega
                · skip
                  go_wp2_with (first | (go_at_call 14; refine (HFC.out _).mono ?_; rintro e w' ⟨rfl, rfl⟩) | (at_builtin; refine app1s rfl _ _ 23 rfl w.heap.size 38 _ 3 32 el_tok rfl (by decide) _ _ _ rfl HO.out [.int .i64 (1 : Nat), .string (s.extract i k), .int .i64 ((at_ : Int) + (i : Nat))] rfl _ rfl rfl (by simp [Value.oneCell']) ?c1 ?c2 ?c3 ?_))
                  case c1 => unfold maxLen; omega
                  case c2 => omega
                  case c3 => exact HZ.out
                  intro v' w' ho' hg' hb'
                  have HI3 := Lib.hid (HI2.out.add hlt HST.out (Or.inl rfl) hik0 ho' hb')
                  clear ho' hg' hb' HI2 HO
                  go_wp2
                  go_roundw
                  case rel => exact ⟨k, _, by omega, by go_num, HI3.out⟩
                  case measure => simp [intOf]; omega
              · have HDI := Lib.hid (show digitB (bt s i) = true from by rw [HB.out]; exact hd)
                obtain ⟨hd1, hd2⟩ : (48 : Int) ≤ (s[i].toNat : Int) ∧ (s[i].toNat : Int) ≤ 57 := by have := HDB.out; rw [hd] at this; simpa using this.symm
                have HNE := Lib.hid h24
                have HNU := Lib.hid (show numE s i (wordE s i) = (parseL (s.extract i (wordE s i)).data.toList).2 from rfl)
                have HPR := Lib.hid (fun w1 => rparse_any (s.extract i (wordE s i)) w1 (by rw [hsz]; unfold maxLen; omega))
                generalize (parseL (s.extract i (wordE s i)).data.toList).1 = pv at *
                generalize hpe : (parseL (s.extract i (wordE s i)).data.toList).2 = pc at *
                clear hpe
                by_cases hpc : pc = 0
                · have HST := Lib.hid (stepF_num HBF.out hn0 HLT.out HNE.out HDI.out (by rw [HNU.out, hpc]))
                  subst hpc
                  generalize wordE s i = k at *
                  have hwk : IntKind.i64.wrap ((i : Int) + ((s.extract i k).size : Int)) = (k : Int) := by rw [hsz]; exact (IntWalk.i64_in _ (by omega)).trans (by omega)
                  go_wp2_with (go_at_call 14; refine (HFC.out _).mono ?_; rintro e w' ⟨rfl, rfl⟩)
                  refine (HPR.out _).mono ?_
                  rintro e w' ⟨rfl, mm, rfl⟩
                  have HI4 := Lib.hid (HI2.out.below (below_drewN (Below.refl _ _) mm))
                  obtain ⟨w3, hw3⟩ : ∃ w3, w3 = w2.drewN mm := ⟨_, rfl⟩
                  rw [← hw3] at HI4 ⊢
                  clear hw3 HI2 HO HZ
                  have HI2 := HI4
                  have HZ := Lib.hid HI2.out.2.2.2.size
                  have HO := Lib.hid HI2.out.2.2.1
                  clear HI4
                  go_wp2_with (first | (at_builtin; refine app1s rfl _ _ 23 rfl w.heap.size 38 _ 3 32 el_tok rfl (by decide) _ _ _ rfl HO.out [.int .i64 (2 : Nat), .string (s.extract i k), .int .i64 ((at_ : Int) + (i : Nat))] rfl _ rfl rfl (by simp [Value.oneCell']) ?c1 ?c2 ?c3 ?_))
                  case c1 => unfold maxLen; omega
                  case c2 => omega
                  case c3 => exact HZ.out
                  intro v' w' ho' hg' hb'
                  have HI3 := Lib.hid (HI2.out.add hlt HST.out (Or.inr (Or.inl rfl)) hik0 ho' hb')
                  clear ho' hg' hb' HI2 HO
                  go_wp2
                  go_roundw
                  case rel => exact ⟨k, _, by omega, by go_num, HI3.out⟩
                  case measure => simp [intOf]; omega
                · have HST := Lib.hid (stepF_bad HBF.out hn0 HLT.out HNE.out HDI.out (by rw [HNU.out]; exact hpc))
                  rw [HNU.out] at HST
                  generalize wordE s i = k at *
                  have hpi : ((pc : Int) == 0) = false := by simp; omega
                  have hpn : ((pc : Int) != 0) = true := by simp; omega
                  have HPC := Lib.hid hpc
                  clear hpc
                  go_wp2_with (first | (go_at_call 14; refine (HFC.out _).mono ?_; rintro e w' ⟨rfl, rfl⟩) | (go_at_call 24; refine (HPR.out _).mono ?_; rintro e w' ⟨rfl, mm, rfl⟩))
                  exact rtok_bad HI2.out.2.1 hlt HST.out HPC.out rfl rfl rfl rfl (below_drewN HI2.out.2.2.2 _)
      · have HI2 := Lib.hid (HI.out.skip hlt (by rw [HB.out]; exact hb))
        clear HI HO
        go_wp2_with (go_at_call 22; refine (rblank_any _ _).mono ?_; rintro e w' ⟨rfl, rfl⟩)
        go_roundw
        case rel => exact ⟨i + 1, acc, by omega, by go_num, HI2.out⟩
        case measure => simp [intOf]; omega
    · obtain rfl : i = s.size := by omega
      go_wp2_with (at_builtin; refine app1s rfl _ _ 23 rfl w.heap.size 38 _ 3 32 el_tok rfl (by decide) _ _ _ rfl HI.out.2.2.1 [.int .i64 (4 : Nat), .string ⟨#[]⟩, .int .i64 ((at_ : Int) + (s.size : Nat))] rfl _ rfl rfl (by simp [Value.oneCell']) ?c1 ?c2 ?c3 ?_)
      case c1 => unfold maxLen; omega
      case c2 => omega
      case c3 => exact HI.out.2.2.2.size
      intro v' w' ho' hg' hb'
      have HW := Lib.hid (HI.out.2.2.2.trans hb')
      have HO2 := Lib.hid ho'
      have HF := Lib.hid HI.out.2.1
      clear ho' hg' hb' HI HO
      go_wp2
      exact rtok_end HF.out rfl rfl rfl rfl HO2.out HW.out
end Go.Proofs.Ytpfeeoogjeobdaa
