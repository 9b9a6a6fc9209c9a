/- The lines of any text, without remarks and blanks: lex.Rows and lex.First answer as the document does; where what is read is of bulk at most 1048576. -/
import Derived.Test.YtpfeeoogjeobdaaRows
import Derived.Test.YtpfeeoogjeobdaaBase
import Derived.ShutString
import Derived.ChangeOld
import Derived.JoinedCond
import Derived.Lib.SmallJoins
import Derived.Test.YtpfeeoogjeobdaaLexAwake
import Derived.Test.YtpfeeoogjeobdaaLexRRows
import Derived.Test.YtpfeeoogjeobdaaLexFirst
import Derived.Deep.RegionHeld
namespace Go.Proofs.Ytpfeeoogjeobdaa.lexRows
open Go.ChangeShapes Go.WideShapes Go.ChangeAt Go.RowKit
open Go.ChangeMaps (open_string shut_string)
set_option linter.unusedVariables false
set_option linter.unusedSimpArgs false

theorem own : ownKnob Try.prog.godebug = none := by kernel_rfl
theorem laidOut : laidOutB Try.prog = true := by kernel_rfl

theorem rowCells_get (s : ByteArray) : ∀ (l : List (Nat × Nat)) (i : Nat) (h : i < l.length), (rowCells s l)[i * 2]? = some (.string (s.extract l[i].1 l[i].2)) ∧ (rowCells s l)[i * 2 + 1]? = some (.int .i64 (l[i].1 : Nat))
  | r :: l, 0, _ => by simp [rowCells]
  | r :: l, i + 1, h => by
    have := rowCells_get s l i (by simpa using h)
    have e : rowCells s (r :: l) = [.string (s.extract r.1 r.2), .int .i64 (r.1 : Nat)] ++ rowCells s l := rfl
    rw [e, List.getElem?_append_right (by simp; omega), List.getElem?_append_right (by simp; omega)]
    simp only [List.length_cons, List.length_nil, List.getElem_cons_succ]
    rw [show (i + 1) * 2 - (0 + 1 + 1) = i * 2 by omega, show (i + 1) * 2 + 1 - (0 + 1 + 1) = i * 2 + 1 by omega]
    exact this
theorem row_at {w : World} {p : Option Addr} {s : ByteArray} {l : List (Nat × Nat)} (h : Rds w 2 p l.length (rowCells s l)) {i : Nat} (hi : i < l.length) :
    ∃ g off, p = some ⟨g, off, none⟩ ∧ w.cell? ⟨g, off + i * 2, none⟩ = some (.string (s.extract l[i].1 l[i].2)) ∧ w.cell? ⟨g, off + i * 2 + 1, none⟩ = some (.int .i64 (l[i].1 : Nat)) := by
  obtain ⟨g, off, hp, hc⟩ := h.2 (by omega)
  obtain ⟨h0, h1⟩ := rowCells_get s l i hi
  exact ⟨g, off, hp, (hc _ (by omega)).trans h0, (hc (i * 2 + 1) (by omega)).trans h1⟩
theorem rowsF_len : ∀ (n : Nat) (s : ByteArray) (f : Nat) (acc : List (Nat × Nat)), s.size + 1 - f = n → (rowsF s f acc).length ≤ acc.length + (s.size + 1 - f) := by
  intro n
  induction n using Nat.strongRecOn with
  | _ n ih =>
    intro s f acc hn
    by_cases h : f ≤ s.size
    · rw [rowsF_step h]
      have hg := (scan_ge (nlB s) s.size _ f rfl).1
      have := ih (s.size + 1 - (scan (nlB s) s.size f + 1)) (by omega) s (scan (nlB s) s.size f + 1) (if headF s f (scan (nlB s) s.size f) < tailF s f (scan (nlB s) s.size f) then acc ++ [(headF s f (scan (nlB s) s.size f), tailF s f (scan (nlB s) s.size f))] else acc) rfl
      split at this
      · rename_i h0; rw [if_pos h0]; simp at this; omega
      · rename_i h0; rw [if_neg h0]; omega
    · rw [rowsF_end h]; omega

set_option maxRecDepth 100000 in
set_option maxHeartbeats 1600000 in
theorem walk (a0 : ByteArray) (w : World) (w0 : a0.size ≤ 1048576) :
    Calls Try.prog 5 #[.string a0] w fun e w' => e = .returned (.bool true) ∧ Below w.heap.size w w' := by
  go_enter Try.func5, Try.ntmps5
  go_wp2_with fail
  refine (awake_any _).mono ?_
  rintro e w1 ⟨rfl, hb1⟩
  have HB := Lib.hid hb1
  clear hb1
  go_wp2_with fail
  refine (rows_any a0 _ (by omega) (by omega)).mono ?_
  rintro e w2 ⟨v, rfl, ho, hb⟩
  have HB2 := Lib.hid (below_trans HB.out hb)
  have HO := Lib.hid ho
  clear hb HB ho
  go_wp2_with fail
  refine (rrows_any a0 _ (by omega) (by omega)).mono ?_
  rintro e w3 ⟨v2, rfl, ho3, hb3⟩
  have HL := rowsF_len _ a0 0 [] rfl
  simp only [List.length_nil] at HL
  generalize rowsF a0 0 [] = l at *
  obtain ⟨p, c, rfl, hr, hc⟩ := Rds.of_own HO.out
  obtain ⟨p2, c2, rfl, hr2, hc2⟩ := Rds.of_own ho3
  have HR2 := Lib.hid hr2
  have HR := Lib.hid (hr.below hb3)
  have HB3 := Lib.hid (below_trans HB2.out hb3)
  clear HO hr hr2 hb3 ho3 HB2
  go_wp2_with fail
  go_loopw [5] (fun i wr => ∃ k : Nat, k ≤ l.length ∧ i = .int .i64 k ∧ Below w3.heap.size w3 wr) (fun i _ => l.length - (intOf i).toNat)
  case atStart => exact ⟨0, by omega, rfl, Below.refl _ _⟩
  case round =>
    obtain ⟨k, hk, rfl, hbr⟩ := hrel
    obtain ⟨wo, rfl⟩ : ∃ wo : World, wo = wr := ⟨_, rfl⟩
    by_cases hlt : k < l.length
    · obtain ⟨g, off, rfl, p0, p1⟩ := row_at (HR.out.below hbr) hlt
      obtain ⟨g2, off2, rfl, q0, q1⟩ := row_at (HR2.out.below hbr) hlt
      have HBR := Lib.hid hbr
      clear hbr
      have hk0 : (0 : Int) ≤ k := by omega
      have hki : (k : Int) < l.length := by omega
      have HT := Lib.hid (show (a0.extract l[k].1 l[k].2).size ≤ 140737488351232 from by simp; omega)
      generalize a0.extract l[k].1 l[k].2 = tx at *
      generalize ((l[k].1 : Nat) : Int) = ta at *
      go_wp2_with fail
      go_region_held (fun w' => w'.cell? ⟨g, off + k * 2, none⟩ = some (.string tx) ∧ w'.cell? ⟨g, off + k * 2 + 1, none⟩ = some (.int .i64 ta) ∧ w'.cell? ⟨g2, off2 + k * 2, none⟩ = some (.string tx) ∧ w'.cell? ⟨g2, off2 + k * 2 + 1, none⟩ = some (.int .i64 ta))
        (first | exact ⟨p0, p1, q0, q1⟩ | exact ⟨cell_below (w := wo.drew) p0 hb, cell_below (w := wo.drew) p1 hb, cell_below (w := wo.drew) q0 hb, cell_below (w := wo.drew) q1 hb⟩)
        (first | (go_at_call 13; refine (first_any _ _ _ HT.out).mono ?_; rintro e w' ⟨rfl, hb⟩) | (go_at_call 14; refine (rfirst_any _ _ HT.out).mono ?_; rintro e w'' ⟨rfl, rfl⟩))
      have HBF := Lib.hid (below_trans HBR.out ((drawBelow wo).trans (hb.mono (Nat.le_refl _))))
      clear hb p0 p1 q0 q1
      go_wp2_with fail
      go_roundw
      case rel => exact ⟨k + 1, by omega, by go_num, HBF.out⟩
      case measure => simp [intOf]; omega
    · obtain rfl : k = l.length := by omega
      have HBR := Lib.hid hbr
      clear hbr
      go_wp2_with fail
      go_ret
      exact ⟨rfl, below_trans HB3.out HBR.out⟩

set_option maxRecDepth 100000 in
theorem lifted (os : Os) (started : os.Started) (H : Type) (enc : TypeId × Value → H) (F : Stop.Interp) :
    ReturnsInHanded {} Try.checked os 5 .any ((Rows.OpenSpec.upto Rows.lexRowsSpec).pre6 enc Try.prog Try.f5 Rows.lexRowsUptoRow.domain false) (((Rows.OpenSpec.upto Rows.lexRowsSpec).at F).post enc Try.prog Try.f5 false true false false) := by
  refine returnsInHanded_of_cond (C := Try.checked) (s := Rows.OpenSpec.upto Rows.lexRowsSpec) (k := Rows.uptoSmall) rfl own started (by kernel_rfl) Try.func5
    (OpenSpec.witness (enc := enc) (C := Try.checked) (s := Rows.OpenSpec.upto Rows.lexRowsSpec) (k := Rows.uptoSmall) rfl false ⟨#[], #[.string ByteArray.empty], []⟩ 8 (by kernel_rfl) (by kernel_rfl) (by kernel_rfl)
      (x := ([.lit (.string [])], [], [])) (by kernel_rfl) rfl (by kernel_rfl)) ?_
  intro W base args ds gs before hval0 hW _ hk0 _
  have hval : ∀ (j : Nat) t v, Try.f5.params[j]? = some t → args[j]? = some v → Value.okWide Try.prog W .any base t v := hval0
  have hW' := hW
  obtain ⟨p, q, hA0, hV, rfl, hfz, hnd⟩ := hW
  have hA : DataW.TrodAll enc Try.prog W 0 (fun _ => true) true Try.f5.params.toList args.toList ds p := hA0
  rw [Try.params5] at hA hval
  obtain ⟨v0, vs0, d0, ds0, p0, q0, hargs, rfl, rfl, h0, r0⟩ := trodAll_cons hA
  obtain ⟨rfl, rfl, rfl⟩ := trodAll_nil r0
  obtain rfl : args = #[v0] := by cases args; simp_all
  obtain ⟨rfl, rfl⟩ := trodVars_none hV
  obtain ⟨a0, rfl, rfl, rfl, w0⟩ := open_string Try.underlying9 (hval 0 9 v0 rfl rfl) h0
  have hk : Rows.uptoBulkAll _ ≤ 1048576 := of_decide_eq_true hk0
  simp only [List.cons_append, List.nil_append, List.append_nil, Rows.uptoBulkAll, Rows.uptoBulk, Array.length_toList] at hk
  clear hA0 hval0
  refine (walk a0 W (by have e : a0.data.size = a0.size := rfl; omega)).mono fun e W' ⟨he, bel⟩ => ?_
  subst he
  exact ⟨_, rfl, _, _, _, [], _, [], hW', trodAll_mk1 (shut_bool Try.underlying4 _), (trodAll_cons_mk (shut_string Try.underlying9 w0) trodAll_mk0), rfl, bel.frame _, fun h => by cases h⟩

theorem over : Rows.lexRowsUptoRow.holds Try.pinned (Rows.OpenSpec.upto Rows.lexRowsSpec) :=
  OpenClaim.holds_of_cond 5 Try.f5 rfl rfl rfl rfl rfl rfl rfl ⟨rfl, rfl, rfl, rfl, rfl⟩ rfl rfl rfl rfl rfl (by kernel_rfl) Try.func5 (by kernel_rfl)
    (of_decide_eq_true (by kernel_rfl)) (by unfold Func.isWrapper; first | (rw [if_pos (by decide +kernel)]; kernel_rfl) | (rw [if_neg (by decide +kernel)]; exact ⟨rfl, rfl⟩))
    (fun os started H enc _ F => lifted os started H enc F)

theorem proved : Rows.LexRowsUptoSaid := over
#print axioms proved
end Go.Proofs.Ytpfeeoogjeobdaa.lexRows
