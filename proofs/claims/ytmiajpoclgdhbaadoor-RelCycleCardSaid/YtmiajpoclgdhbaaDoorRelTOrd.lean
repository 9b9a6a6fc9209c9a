/- Order of the reference. -/
import Derived.Test.YtmiajpoclgdhbaaDoorRelTClos
import Derived.Test.YtmiajpoclgdhbaaDoorRelOrder
namespace Go.Proofs.YtmiajpoclgdhbaaDoor
open Go.RowKit
set_option linter.unusedVariables false
set_option linter.unusedSimpArgs false

def tfree (T : Nat → Nat → Bool) (n : Nat) (dn : List Bool) (i : Nat) : Bool := !dn.getD i false && (List.range n).all fun k => dn.getD k false || !T k i
def tfirst (T : Nat → Nat → Bool) (n : Nat) (dn : List Bool) : Option Nat := (List.range n).find? (tfree T n dn)
def tordW (T : Nat → Nat → Bool) (n : Nat) (dn : List Bool) (out : List Nat) : Option (List Nat) :=
  if out.length < n then
    match tfirst T n dn with
    | none => none
    | some i => tordW T n (dn.set i true) (out ++ [i])
  else some out
  termination_by n - out.length
  decreasing_by simp; omega
def torder (T : Nat → Nat → Bool) (n : Nat) : Option (List Nat) := tordW T n (List.replicate n false) []
def TOrderPost (n : Nat) (T : Nat → Nat → Bool) (w : World) (e : Ending) (w' : World) : Prop :=
  Below w.heap.size w w' ∧ match torder T n with
    | none => e = .returned (.slice none 0 0)
    | some l => ∃ v, e = .returned v ∧ w'.ownsRow w.heap.size 3 1 v l.length (l.map fun b => .int .i64 (b : Nat))
/-- The best so far, from j on. -/
def bestFrom (T : Nat → Nat → Bool) (n : Nat) (dn : List Bool) (j : Nat) (v : Value) : Prop :=
  (v = .int .i64 (-1) ∧ ∀ x, j ≤ x → x < n → tfree T n dn x = false) ∨ ∃ b : Nat, v = .int .i64 (b : Nat) ∧ b < n ∧ tfree T n dn b = true ∧ ∀ x, j ≤ x → x < b → tfree T n dn x = false
theorem best_no {T : Nat → Nat → Bool} {n j : Nat} {dn : List Bool} {v : Value} (h : bestFrom T n dn (j + 1) v) (hf : tfree T n dn j = false) : bestFrom T n dn j v := by
  rcases h with ⟨rfl, h⟩ | ⟨b, rfl, hb, hfb, h⟩
  · refine .inl ⟨rfl, fun x hx hn => ?_⟩
    by_cases e : x = j
    · rw [e]; exact hf
    · exact h x (by omega) hn
  · refine .inr ⟨b, rfl, hb, hfb, fun x hx hn => ?_⟩
    by_cases e : x = j
    · rw [e]; exact hf
    · exact h x (by omega) hn
theorem best_yes {T : Nat → Nat → Bool} {n j : Nat} {dn : List Bool} (hj : j < n) (hf : tfree T n dn j = true) : bestFrom T n dn j (.int .i64 (j : Nat)) :=
  .inr ⟨j, rfl, hj, hf, fun x hx hn => by omega⟩
def allTo (T : Nat → Nat → Bool) (dn : List Bool) (i k : Nat) : Bool := (List.range k).all fun x => dn.getD x false || !T x i
theorem allTo_zero (T : Nat → Nat → Bool) (dn : List Bool) (i : Nat) : allTo T dn i 0 = true := rfl
theorem allTo_succ (T : Nat → Nat → Bool) (dn : List Bool) (i k : Nat) (al dk tk : Bool) (h1 : allTo T dn i k = al) (h2 : dn.getD k false = dk) (h3 : T k i = tk) : allTo T dn i (k + 1) = (al && (dk || !tk)) := by
  subst h1 h2 h3
  unfold allTo
  rw [List.range_succ, List.all_append]; simp
theorem tfree_eq (T : Nat → Nat → Bool) (n : Nat) (dn : List Bool) (i : Nat) (d : Bool) (h : dn.getD i false = d) : tfree T n dn i = (!d && allTo T dn i n) := by
  subst h; rfl

set_option maxRecDepth 100000 in
set_option maxHeartbeats 4000000 in
theorem torder_any (t n : Nat) (T : Nat → Nat → Bool) (w : World) (h : TabAt w t n T) (hn : n ≤ 1000) :
    Calls Tryd.prog 22 #[.slice (some ⟨t, 0, none⟩) n n] w (TOrderPost n T w) := by
  have HTA := Lib.hid h
  clear h
  have hmk := mk_bools n (by omega)
  have HD0 := Lib.hid (made_bools w n)
  have HB0 := Lib.hid (below_alloc (Below.refl w.heap.size w) (.cells (madeCells #[.bool false] n) 4))
  go_enter Tryd.func22, Tryd.ntmps22
  go_wp2_with fail
  obtain ⟨w1, hw1⟩ : ∃ w1, w1 = w.alloc (.cells (madeCells #[.bool false] n) 4) := ⟨_, rfl⟩
  have hzw : w1.heap.size = w.heap.size + 1 := by rw [hw1]; simp
  rw [← hw1] at HD0 HB0 ⊢
  clear hw1 hmk
  go_loopw [3] (fun v wr => ∃ (dn : List Bool) (out : List Nat), dn.length = n ∧ out.length ≤ n ∧ tordW T n dn out = torder T n ∧ Blk wr 4 w.heap.size (dn.map Value.bool) ∧ wr.ownsRow (w.heap.size + 1) 3 1 v out.length (out.map fun b => .int .i64 (b : Nat)) ∧ Below w.heap.size w wr ∧ w.heap.size + 1 ≤ wr.heap.size) (fun v wr => n - (match v with | .slice _ m _ => m | _ => 0))
  case atStart => exact ⟨List.replicate n false, [], by simp, by simp, rfl, HD0.out, World.ownsRow_nil _ _ _ _, HB0.out, by omega⟩
  case round =>
    clear HD0 HB0 hzw
    obtain ⟨dn, out, hld, hlo, ho, hD, hO, hB, hz⟩ := hrel
    obtain ⟨wm, rfl⟩ : ∃ wm : World, wm = wr := ⟨_, rfl⟩
    obtain ⟨po, co, rfl, _⟩ := own_form hO
    by_cases hlt2 : out.length < n
    · have hlt2i : (out.length : Int) < n := by omega
      have hn0 : 0 < n := by omega
      have HORD := Lib.hid (show tordW T n dn out = match tfirst T n dn with | none => none | some i => tordW T n (dn.set i true) (out ++ [i]) from by rw [tordW, if_pos hlt2])
      have HTM := Lib.hid (HTA.out.keep hB)
      have HD := Lib.hid hD
      have HO := Lib.hid hO
      have HB := Lib.hid hB
      have HOE := Lib.hid ho
      clear hD hO hB ho
      go_wp2_with fail
      have hwn : IntKind.i64.wrap ((n : Int) - 1) = (n : Int) - 1 := IntWalk.i64_in _ (by omega)
      try rw [hwn]
      go_loop [5, 6] (fun bst i => ∃ j : Nat, j ≤ n ∧ i = .int .i64 ((j : Int) - 1) ∧ bestFrom T n dn j bst) (fun _ i => (intOf i + 1).toNat)
      case atStart => exact ⟨n, by omega, rfl, .inl ⟨rfl, fun x hx hn => by omega⟩⟩
      case round =>
        obtain ⟨j, hj, rfl, hbest⟩ := hrel
        by_cases hj0 : 0 < j
        · obtain ⟨i, rfl⟩ : ∃ i, j = i + 1 := ⟨j - 1, by omega⟩
          have hii : (((i + 1 : Nat) : Int) - 1) = (i : Int) := by omega
          rw [hii]
          have hi0 : (0 : Int) ≤ i := by omega
          have hin : (i : Int) < n := by omega
          have HBE := Lib.hid hbest
          have hcd : wm.cell? ⟨w.heap.size, i, none⟩ = some (.bool (dn.getD i false)) := by
            rw [HD.out.cell i]
            have : i < dn.length := by omega
            simp [this]
          clear hbest hii
          have hil : i < n := by omega
          obtain ⟨d, hd⟩ : ∃ d, dn.getD i false = d := ⟨_, rfl⟩
          rw [hd] at hcd
          have HDI := Lib.hid hd
          clear hd
          go_wp2_with fail
          go_loop [7, 8] (fun f q => ∃ k : Nat, k ≤ n ∧ q = .int .i64 k ∧ f = .bool (!d && allTo T dn i k)) (fun _ q => n - (intOf q).toNat)
          case atStart => exact ⟨0, by omega, rfl, by rw [allTo_zero, Bool.and_true]⟩
          case round =>
            obtain ⟨k, hk, rfl, rfl⟩ := hrel
            by_cases hkl : k < n
            · have hk0 : (0 : Int) ≤ k := by omega
              have hki : (k : Int) < n := by omega
              have hck : wm.cell? ⟨w.heap.size, k, none⟩ = some (.bool (dn.getD k false)) := by
                rw [HD.out.cell k]
                have : k < dn.length := by omega
                simp [this]
              have t0 := HTM.out.outer hkl
              have t1 := HTM.out.mark hkl hil
              obtain ⟨al, hal⟩ : ∃ al, allTo T dn i k = al := ⟨_, rfl⟩
              obtain ⟨dk, hdk⟩ : ∃ dk, dn.getD k false = dk := ⟨_, rfl⟩
              obtain ⟨tk, htk⟩ : ∃ tk, T k i = tk := ⟨_, rfl⟩
              rw [hdk] at hck
              rw [htk] at t1
              rw [hal]
              have HAL := Lib.hid (allTo_succ T dn i k al dk tk hal hdk htk)
              clear hdk htk hal
              cases d
              · cases al
                · go_wp2_with fail
                  go_round
                  case rel => exact ⟨k + 1, by omega, by go_num, by rw [HAL.out]; rfl⟩
                  case measure => simp [intOf]; omega
                · cases dk
                  · cases tk
                    · go_wp2_with fail
                      go_round
                      case rel => exact ⟨k + 1, by omega, by go_num, by rw [HAL.out]; rfl⟩
                      case measure => simp [intOf]; omega
                    · go_wp2_with fail
                      go_round
                      case rel => exact ⟨k + 1, by omega, by go_num, by rw [HAL.out]; rfl⟩
                      case measure => simp [intOf]; omega
                  · go_wp2_with fail
                    go_round
                    case rel => exact ⟨k + 1, by omega, by go_num, by rw [HAL.out]; rfl⟩
                    case measure => simp [intOf]; omega
              · go_wp2_with fail
                go_round
                case rel => exact ⟨k + 1, by omega, by go_num⟩
                case measure => simp [intOf]; omega
            · obtain rfl : k = n := by omega
              have HFR := Lib.hid (show tfree T k dn i = (!d && allTo T dn i k) from tfree_eq T k dn i d HDI.out)
              generalize (!d && allTo T dn i k) = fr at *
              have hwi : IntKind.i64.wrap ((i : Int) - 1) = (i : Int) - 1 := IntWalk.i64_in _ (by omega)
              cases fr
              · go_wp2_with fail
                go_round
                case rel => exact ⟨i, by omega, by first | rfl | rw [hwi], best_no HBE.out HFR.out⟩
                case measure => simp [intOf, hwi]
              · go_wp2_with fail
                go_round
                case rel => exact ⟨i, by omega, by first | rfl | rw [hwi], best_yes hil HFR.out⟩
                case measure => simp [intOf, hwi]
        · obtain rfl : j = 0 := by omega
          rcases hbest with ⟨rfl, hno⟩ | ⟨b, rfl, hb, hfb, hno⟩
          · have HNN := Lib.hid (show torder T n = none from by rw [← HOE.out, HORD.out, show tfirst T n dn = none from find_none_to fun x hx => hno x (by omega) hx])
            clear hno
            go_wp2_with fail
            go_ret
            refine ⟨HB.out, ?_⟩
            rw [HNN.out]
            rfl
          · have HFF := Lib.hid (show tfirst T n dn = some b from find_first hb (fun x hx => hno x (by omega) hx) hfb)
            have hb0 : (0 : Int) ≤ b := by omega
            have hbn : (b : Int) < n := by omega
            have hcf := HD.out.free b
            have hcd : wm.cell? ⟨w.heap.size, b, none⟩ = some (.bool (dn.getD b false)) := by
              rw [HD.out.cell b]
              have : b < dn.length := by omega
              simp [this]
            clear hno hfb
            have HOS := Lib.hid (ownsRow_setCell_below HO.out (a := ⟨w.heap.size, b, none⟩) (by simp) (.bool true))
            have HDS := Lib.hid (show Blk (wm.setCell ⟨w.heap.size, b, none⟩ (.bool true)) 4 w.heap.size ((dn.set b true).map Value.bool) from by rw [List.map_set]; exact HD.out.set b (.bool true))
            have HBS := Lib.hid (HB.out.setCell (p := ⟨w.heap.size, b, none⟩) (by simp) (.bool true))
            have HSZ := Lib.hid (show w.heap.size + 1 ≤ (wm.setCell ⟨w.heap.size, b, none⟩ (.bool true)).heap.size from by simp; omega)
            go_wp2_with (at_builtin; refine app1s rfl _ _ 33 rfl (w.heap.size + 1) 3 _ 1 8 eli rfl (by decide) _ _ _ rfl HOS.out [.int .i64 (b : Nat)] rfl _ rfl (by simp) (by simp [Value.oneCell']) ?c1 ?c2 ?c3 ?_)
            case c1 => unfold maxLen; omega
            case c2 => omega
            intro v' w3 ho' hg' hb'
            obtain ⟨p3, c3, rfl, _⟩ := own_form ho'
            have HO3 := Lib.hid (show w3.ownsRow (w.heap.size + 1) 3 1 (.slice p3 (out.length + 1) c3) (out ++ [b]).length ((out ++ [b]).map fun b => .int .i64 (b : Nat)) from by rw [List.map_append, List.length_append]; exact ho')
            have HD3 := Lib.hid (HDS.out.belowB hb' (by omega))
            have HB3 := Lib.hid (HBS.out.trans (hb'.mono (by omega)))
            have HZ3 := Lib.hid (Nat.le_trans HSZ.out hb'.size)
            clear ho' hg' hb' HOS HDS HBS HSZ HD HB HO hcd hcf
            go_wp2_with fail
            go_roundw
            case rel =>
              refine ⟨dn.set b true, out ++ [b], by simp; omega, by simp; omega, ?_, HD3.out, HO3.out, HB3.out, HZ3.out⟩
              rw [← HOE.out, HORD.out, HFF.out]
            case measure => simp; omega
    · have HDN := Lib.hid (show torder T n = some out from by rw [← ho, tordW, if_neg hlt2])
      have hlt2i : ¬ (out.length : Int) < n := by omega
      have HO := Lib.hid hO
      have HB := Lib.hid hB
      clear hD hO hB ho
      go_wp2_with fail
      go_ret
      refine ⟨HB.out, ?_⟩
      rw [HDN.out]
      exact ⟨_, rfl, ownsRow_mono HO.out (show w.heap.size ≤ w.heap.size + 1 by omega)⟩
end Go.Proofs.YtmiajpoclgdhbaaDoor
