/- The tokens of all lines of a text stand in it at their places, in order; where what is read is of bulk at most 1048576. -/
import Derived.Test.YtpfeeoogjeobdaaRows
import Derived.Test.YtpfeeoogjeobdaaBase
import Derived.ShutString
import Derived.ChangeOld
import Derived.JoinedCond
import Derived.Lib.SmallJoins
import Derived.Test.YtpfeeoogjeobdaaLexAwake
import Derived.Test.YtpfeeoogjeobdaaLexLens
import Derived.BigQuiet
namespace Go.Proofs.Ytpfeeoogjeobdaa.lexPlaces
open Go.ChangeShapes Go.WideShapes Go.ChangeAt Go.RowKit
open Go.ChangeMaps (open_string shut_string)
set_option linter.unusedVariables false
set_option linter.unusedSimpArgs false

theorem own : ownKnob Try.prog.godebug = none := by kernel_rfl
theorem laidOut : laidOutB Try.prog = true := by kernel_rfl

def RowsOk (s : ByteArray) (l : List (Nat × Nat)) (f : Nat) : Prop := l.Pairwise (fun x y => x.2 ≤ y.1) ∧ ∀ x ∈ l, x.1 < x.2 ∧ x.2 ≤ s.size ∧ x.2 ≤ f
theorem rows_ok : ∀ (n : Nat) (s : ByteArray) (f : Nat) (acc : List (Nat × Nat)), s.size + 1 - f = n → RowsOk s acc f → RowsOk s (rowsF s f acc) (s.size + 1 + f) := by
  intro n
  induction n using Nat.strongRecOn with
  | _ n ih =>
    intro s f acc hn hok
    by_cases h : f ≤ s.size
    · rw [rowsF_step h]
      have hg := (scan_ge (nlB s) s.size _ f rfl).1
      have hg2 := (scan_ge (nlB s) s.size _ f rfl).2 h
      have h1 := headF_bd s f _ hg
      have h2 := tailF_bd s f _ hg
      generalize scan (nlB s) s.size f = k at *
      suffices hh : RowsOk s (if headF s f k < tailF s f k then acc ++ [(headF s f k, tailF s f k)] else acc) (k + 1) by
        have := ih (s.size + 1 - (k + 1)) (by omega) s (k + 1) _ rfl hh
        exact ⟨this.1, fun x hx => ⟨(this.2 x hx).1, (this.2 x hx).2.1, by have := (this.2 x hx).2.1; omega⟩⟩
      · split
        · rename_i hlt
          refine ⟨List.pairwise_append.2 ⟨hok.1, List.pairwise_singleton _ _, fun x hx y hy => ?_⟩, fun x hx => ?_⟩
          · rw [List.mem_singleton] at hy; subst hy
            have := (hok.2 x hx).2.2; omega
          · rcases List.mem_append.1 hx with hx | hx
            · have := hok.2 x hx; omega
            · rw [List.mem_singleton] at hx; subst hx; omega
        · exact ⟨hok.1, fun x hx => by have := hok.2 x hx; omega⟩
    · rw [rowsF_end h]
      exact ⟨hok.1, fun x hx => by have := hok.2 x hx; omega⟩
def ToksOk (l : List (Nat × Nat × Nat)) (f : Nat) : Prop := l.Pairwise (fun x y => x.2.2 ≤ y.2.1) ∧ ∀ x ∈ l, x.2.1 ≤ x.2.2 ∧ x.2.2 ≤ f
theorem ToksOk.snoc {l : List (Nat × Nat × Nat)} {f n k : Nat} (h : ToksOk l f) (hn : f ≤ n) : ToksOk (l ++ [(k, f, n)]) n := by
  refine ⟨List.pairwise_append.2 ⟨h.1, List.pairwise_singleton _ _, fun x hx y hy => ?_⟩, fun x hx => ?_⟩
  · rw [List.mem_singleton] at hy; subst hy
    exact (h.2 x hx).2
  · rcases List.mem_append.1 hx with hx | hx
    · have := h.2 x hx; omega
    · rw [List.mem_singleton] at hx; subst hx; exact ⟨hn, Nat.le_refl _⟩
theorem ToksOk.mono {l : List (Nat × Nat × Nat)} {f n : Nat} (h : ToksOk l f) (hn : f ≤ n) : ToksOk l n := ⟨h.1, fun x hx => by have := h.2 x hx; omega⟩
theorem stepF_to (s : ByteArray) (i : Nat) (hi : i < s.size) : (stepF s i).2.1 ≤ s.size := by
  have hw := (wordE_bd s i).2 (by omega)
  have hs : signB (s.extract i s.size) ≤ s.size - i := by
    have := signB_le (t := s.extract i s.size) (by simp; omega)
    simpa using this
  unfold stepF
  repeat' split
  all_goals simp only []
  all_goals omega
theorem toks_ok : ∀ (n : Nat) (s : ByteArray) (i : Nat) (acc : List (Nat × Nat × Nat)), s.size - i = n → i ≤ s.size → ToksOk acc i → ToksOk (toksF s i acc).1 s.size ∧ ((toksF s i acc).2.1 ≠ 0 → (toksF s i acc).2.2 < s.size) := by
  intro n
  induction n using Nat.strongRecOn with
  | _ n ih =>
    intro s i acc hn hi hok
    rw [toksF]
    by_cases h : i < s.size
    · rw [dif_pos h]
      have hto := stepF_to s i h
      by_cases h9 : (stepF s i).1 = 9
      · rw [if_pos h9]; exact ⟨⟨List.Pairwise.nil, fun x hx => by cases hx⟩, fun _ => h⟩
      · rw [if_neg h9]
        by_cases h2 : i < (stepF s i).2.1
        · rw [dif_pos h2]
          refine ih (s.size - (stepF s i).2.1) (by omega) s (stepF s i).2.1 _ rfl hto ?_
          split
          · exact hok.mono (by omega)
          · exact hok.snoc (by omega)
        · rw [dif_neg h2]; exact ⟨⟨List.Pairwise.nil, fun x hx => by cases hx⟩, fun h => absurd rfl h⟩
    · rw [dif_neg h]
      obtain rfl : i = s.size := by omega
      exact ⟨hok.snoc (Nat.le_refl _), fun h => absurd rfl h⟩

set_option maxRecDepth 100000 in
set_option maxHeartbeats 1600000 in
theorem walk (a0 : ByteArray) (w : World) (w0 : a0.size ≤ 1048576) :
    Calls Try.prog 4 #[.string a0] w fun e w' => e = .returned (.bool true) ∧ Below w.heap.size w w' := by
  go_enter Try.func4, Try.ntmps4
  go_wp2_with fail
  refine (awake_any _).mono ?_
  rintro e w1 ⟨rfl, hb1⟩
  have HB := Lib.hid hb1
  clear hb1
  go_wp2_with fail
  refine (rows_any a0 _ (by omega) (by omega)).mono ?_
  rintro e w2 ⟨v, rfl, ho, hb⟩
  have HB2 := Lib.hid (below_trans HB.out hb)
  have HL := rowsF_len _ a0 0 [] rfl
  have HRO := Lib.hid (rows_ok _ a0 0 [] rfl ⟨List.Pairwise.nil, fun x hx => by cases hx⟩)
  simp only [List.length_nil] at HL
  generalize rowsF a0 0 [] = l at *
  obtain ⟨p, c, rfl, hr, hc⟩ := Rds.of_own ho
  have HR := Lib.hid hr
  clear hb HB ho hr
  go_wp2_with fail
  go_loopw [3, 5] (fun last i wr => ∃ k q : Nat, k ≤ l.length ∧ i = .int .i64 k ∧ last = .int .i64 q ∧ Below w2.heap.size w2 wr ∧ ∀ j (hj : j < l.length), k ≤ j → q ≤ l[j].1) (fun _ i _ => l.length - (intOf i).toNat)
  case atStart => exact ⟨0, 0, by omega, rfl, rfl, Below.refl _ _, fun j hj _ => by omega⟩
  case round =>
    obtain ⟨k, q, hk, rfl, rfl, hbr, hq⟩ := hrel
    obtain ⟨wo, rfl⟩ : ∃ wo : World, wo = wr := ⟨_, rfl⟩
    by_cases hlt : k < l.length
    · obtain ⟨g, off, rfl, p0, p1⟩ := row_at (HR.out.below hbr) hlt
      have HBR := Lib.hid hbr
      have HQ := Lib.hid hq
      clear hbr hq
      have hk0 : (0 : Int) ≤ k := by omega
      have hki : (k : Int) < l.length := by omega
      have HRK := HRO.out.2 l[k] (List.getElem_mem hlt)
      have HNX := Lib.hid (fun j (hj : j < l.length) (h : k < j) => (List.pairwise_iff_getElem.1 HRO.out.1) k j hlt hj h)
      have hqk := HQ.out k hlt (Nat.le_refl _)
      have HNQ := Lib.hid hqk
      obtain ⟨a, ha⟩ : ∃ a, a = l[k].1 := ⟨_, rfl⟩
      obtain ⟨b, hb⟩ : ∃ b, b = l[k].2 := ⟨_, rfl⟩
      rw [← ha] at p0 p1 HRK hqk
      rw [← hb] at p0 HRK HNX
      clear HNQ HQ ha hb
      have HTS := Lib.hid (show (a0.extract a b).size = b - a from by simp; omega)
      have HTX := Lib.hid (fun (x y : Nat) (h : y ≤ b - a) => show a0.extract (a + x) (a + y) = (a0.extract a b).extract x y from by rw [ByteArray.extract_extract]; congr 1; omega)
      have HTI := Lib.hid (show ((a0.extract a b).size : Int) = (b : Int) - (a : Int) from by rw [HTS.out]; omega)
      have HTO := Lib.hid (toks_ok _ (a0.extract a b) 0 [] rfl (Nat.zero_le _) ⟨List.Pairwise.nil, fun x hx => by cases hx⟩)
      have HTL := Lib.hid (toksF_len _ (a0.extract a b) 0 [] rfl)
      have HTK := Lib.hid (fun w1 => tokens_any (a0.extract a b) a w1 (by rw [HTS.out]; omega) (by omega))
      generalize a0.extract a b = tx at *
      go_wp2_with fail
      refine (HTK.out _).mono ?_
      rintro e w3 ⟨v, rfl, ho3, hb3⟩
      obtain ⟨p, c3, rfl, hr3, hc3⟩ := Rds.of_own ho3
      have HR3 := Lib.hid hr3
      have HB3 := Lib.hid (below_trans HBR.out hb3)
      have hp0 := fun o => cell_alloc (cell_below p0 hb3) o
      have hp1 := fun o => cell_alloc (cell_below p1 hb3) o
      have HPL := Lib.hid (show (toksF tx 0 []).2.1 ≠ 0 → ((a : Int) ≤ toksAt a (toksF tx 0 []) ∧ toksAt a (toksF tx 0 []) < (a : Int) + (tx.size : Int)) from fun h => by
        have := HTO.out.2 h
        unfold toksAt; rw [if_neg h]; omega)
      have HTA := Lib.hid HTO.out.1
      clear ho3 hr3 hb3 p0 p1 HTK HTO HBR
      generalize (toksF tx 0 []).2.1 = code at *
      generalize toksAt a (toksF tx 0 []) = place at *
      generalize (toksF tx 0 []).1 = tl at *
      have htl : tl.length ≤ 2097152 := by have h1 := HTL.out; have h2 := HTS.out; simp at h1; omega
      have hwt : IntKind.i64.wrap ((a : Int) + (tx.size : Int)) = (a : Int) + (tx.size : Int) := IntWalk.i64_in _ (by have := HTI.out; omega)
      by_cases hcode : code = 0
      · subst hcode
        clear HPL hp0 hp1
        go_wp2_with fail
        have HR4 := Lib.hid (HR3.out.below (below_alloc (Below.refl _ _) (.cells #[.int .i64 0, .int .i64 place] 26)))
        have HB4 := Lib.hid (below_alloc HB3.out (.cells #[.int .i64 0, .int .i64 place] 26))
        obtain ⟨w4, hw4⟩ : ∃ w4, w4 = w3.alloc (.cells #[.int .i64 0, .int .i64 place] 26) := ⟨_, rfl⟩
        have HE4 := Lib.hid hw4
        rw [← hw4] at HR4 HB4
        clear hw4 HR3 HB3
        go_loopw [3, 8] (fun last j wr => ∃ k2 q2 m : Nat, k2 ≤ tl.length ∧ j = .int .i64 k2 ∧ last = .int .i64 q2 ∧ wr = w4.drewN m ∧ q2 ≤ b ∧ ∀ x (hx : x < tl.length), k2 ≤ x → q2 ≤ a + tl[x].2.1) (fun _ j _ => tl.length - (intOf j).toNat)
        case atStart => exact ⟨0, q, 0, by omega, rfl, rfl, HE4.out.symm, by omega, fun x hx _ => by omega⟩
        case round =>
          clear HE4
          obtain ⟨k2, q2, m, hk2, rfl, rfl, rfl, hq2, hn2⟩ := hrel
          by_cases hlt2 : k2 < tl.length
          · obtain ⟨g2, off2, rfl, e0, e1, e2⟩ := tok_at HR4.out hlt2
            have h20 : (0 : Int) ≤ k2 := by omega
            have h2i : (k2 : Int) < tl.length := by omega
            have hlo := hn2 k2 hlt2 (Nat.le_refl _)
            have hmm := HTA.out.2 tl[k2] (List.getElem_mem hlt2)
            have HNX2 := Lib.hid (fun x (hx : x < tl.length) (h : k2 < x) => (List.pairwise_iff_getElem.1 HTA.out.1) k2 x hlt2 hx h)
            obtain ⟨x, hx⟩ : ∃ x, x = tl[k2].2.1 := ⟨_, rfl⟩
            obtain ⟨y, hy⟩ : ∃ y, y = tl[k2].2.2 := ⟨_, rfl⟩
            rw [← hx] at e1 e2 hlo hmm
            rw [← hy] at e1 hmm HNX2
            clear hx hy e0 hn2
            have hts := HTS.out
            have HSL := Lib.hid (HTX.out x y (by omega))
            have hsz : (tx.extract x y).size = y - x := by simp; omega
            rw [← HSL.out] at e1 hsz
            obtain ⟨m1, hm1⟩ : ∃ m1, m1 = a + x := ⟨_, rfl⟩
            obtain ⟨m2, hm2⟩ : ∃ m2, m2 = a + y := ⟨_, rfl⟩
            rw [← hm1, ← hm2] at e1 hsz
            rw [show ((a : Int) + (x : Int)) = (m1 : Int) by omega] at e2
            have HX1 := Lib.hid (show q2 ≤ m1 ∧ m1 ≤ m2 ∧ m2 ≤ b ∧ m2 = a + y from by omega)
            have hz0 : (q2 : Int) ≤ m1 := by omega
            have hz1 : (m1 : Int) ≤ m2 := by omega
            have hz2 : (m2 : Int) ≤ a0.size := by omega
            obtain ⟨ty, hty⟩ : ∃ ty, a0.extract m1 m2 = ty := ⟨_, rfl⟩
            rw [hty] at e1 hsz
            have hz3 : IntKind.i64.wrap ((m1 : Int) + (ty.size : Int)) = (m2 : Int) := by rw [hsz]; exact (IntWalk.i64_in _ (by omega)).trans (by omega)
            have hg1 : ¬ (m1 : Int) < q2 := by omega
            have hg2 : ¬ (a0.size : Int) < m2 := by omega
            have hg3 : decide ((m1 : Int) < q2) = false := decide_eq_false hg1
            have hg4 : decide ((a0.size : Int) < m2) = false := decide_eq_false hg2
            have hg5 : ¬ m1 < q2 := by omega
            have hg6 : ¬ a0.size < m2 := by omega
            have hg7 : decide (m1 < q2) = false := decide_eq_false hg5
            have hg8 : decide (a0.size < m2) = false := decide_eq_false hg6
            clear hm1 hm2 hsz hlo hmm hts
            go_wp2_with fail
            go_quiet (fail)
            go_wp2_with fail
            go_quiet (fail)
            go_wp2_with fail
            go_roundw
            case rel => exact ⟨k2 + 1, m2, _, by omega, by go_num, rfl, rfl, HX1.out.2.2.1, fun z hz h => by have := HNX2.out z hz (by omega); have := HX1.out; omega⟩
            case measure => simp [intOf]; omega
          · obtain rfl : k2 = tl.length := by omega
            have HQ2 := Lib.hid hq2
            clear hn2 hq2
            go_wp2_with fail
            go_roundw
            case rel => exact ⟨k + 1, q2, by omega, by go_num, rfl, below_drewN HB4.out m, fun j hj h => by have := HNX.out j hj (by omega); have := HQ2.out; omega⟩
            case measure => simp [intOf]; omega
      · obtain ⟨hp2, hp3⟩ := HPL.out hcode
        have hci : ((code : Int) == 0) = false := by simp; omega
        have hcn : ((code : Int) != 0) = true := by simp; omega
        clear HPL hcode
        go_wp2_with fail
        go_quiet (fail)
        go_wp2_with fail
        go_ret
        exact ⟨rfl, below_trans HB2.out (below_drewN (below_alloc HB3.out _) _)⟩
    · obtain rfl : k = l.length := by omega
      have HBR := Lib.hid hbr
      clear hbr
      go_wp2_with fail
      go_ret
      exact ⟨rfl, below_trans HB2.out HBR.out⟩

set_option maxRecDepth 100000 in
theorem lifted (os : Os) (started : os.Started) (H : Type) (enc : TypeId × Value → H) (F : Stop.Interp) :
    ReturnsInHanded {} Try.checked os 4 .any ((Rows.OpenSpec.upto Rows.lexPlacesSpec).pre6 enc Try.prog Try.f4 Rows.lexPlacesUptoRow.domain false) (((Rows.OpenSpec.upto Rows.lexPlacesSpec).at F).post enc Try.prog Try.f4 false true false false) := by
  refine returnsInHanded_of_cond (C := Try.checked) (s := Rows.OpenSpec.upto Rows.lexPlacesSpec) (k := Rows.uptoSmall) rfl own started (by kernel_rfl) Try.func4
    (OpenSpec.witness (enc := enc) (C := Try.checked) (s := Rows.OpenSpec.upto Rows.lexPlacesSpec) (k := Rows.uptoSmall) rfl false ⟨#[], #[.string ByteArray.empty], []⟩ 8 (by kernel_rfl) (by kernel_rfl) (by kernel_rfl)
      (x := ([.lit (.string [])], [], [])) (by kernel_rfl) rfl (by kernel_rfl)) ?_
  intro W base args ds gs before hval0 hW _ hk0 _
  have hval : ∀ (j : Nat) t v, Try.f4.params[j]? = some t → args[j]? = some v → Value.okWide Try.prog W .any base t v := hval0
  have hW' := hW
  obtain ⟨p, q, hA0, hV, rfl, hfz, hnd⟩ := hW
  have hA : DataW.TrodAll enc Try.prog W 0 (fun _ => true) true Try.f4.params.toList args.toList ds p := hA0
  rw [Try.params4] at hA hval
  obtain ⟨v0, vs0, d0, ds0, p0, q0, hargs, rfl, rfl, h0, r0⟩ := trodAll_cons hA
  obtain ⟨rfl, rfl, rfl⟩ := trodAll_nil r0
  obtain rfl : args = #[v0] := by cases args; simp_all
  obtain ⟨rfl, rfl⟩ := trodVars_none hV
  obtain ⟨a0, rfl, rfl, rfl, w0⟩ := open_string Try.underlying9 (hval 0 9 v0 rfl rfl) h0
  have hk : Rows.uptoBulkAll _ ≤ 1048576 := of_decide_eq_true hk0
  simp only [List.cons_append, List.nil_append, List.append_nil, Rows.uptoBulkAll, Rows.uptoBulk, Array.length_toList] at hk
  clear hA0 hval0
  refine (walk a0 W (by have e : a0.data.size = a0.size := rfl; omega)).mono fun e W' ⟨he, bel⟩ => ?_
  subst he
  exact ⟨_, rfl, _, _, _, [], _, [], hW', trodAll_mk1 (shut_bool Try.underlying4 _), (trodAll_cons_mk (shut_string Try.underlying9 w0) trodAll_mk0), rfl, bel.frame _, fun h => by cases h⟩

theorem over : Rows.lexPlacesUptoRow.holds Try.pinned (Rows.OpenSpec.upto Rows.lexPlacesSpec) :=
  OpenClaim.holds_of_cond 4 Try.f4 rfl rfl rfl rfl rfl rfl rfl ⟨rfl, rfl, rfl, rfl, rfl⟩ rfl rfl rfl rfl rfl (by kernel_rfl) Try.func4 (by kernel_rfl)
    (of_decide_eq_true (by kernel_rfl)) (by unfold Func.isWrapper; first | (rw [if_pos (by decide +kernel)]; kernel_rfl) | (rw [if_neg (by decide +kernel)]; exact ⟨rfl, rfl⟩))
    (fun os started H enc _ F => lifted os started H enc F)

theorem proved : Rows.LexPlacesUptoSaid := over
#print axioms proved
end Go.Proofs.Ytpfeeoogjeobdaa.lexPlaces
