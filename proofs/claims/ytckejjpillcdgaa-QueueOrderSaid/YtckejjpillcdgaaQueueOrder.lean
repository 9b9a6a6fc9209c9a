/- Of a row that is put into till it is full and then taken from, all come out in their order. -/
import Derived.Test.YtckejjpillcdgaaRows
import Derived.Test.YtckejjpillcdgaaBase
import Derived.ShutString
import Derived.ChangeOld
import Derived.Lib.SmallJoins
import Derived.Test.YtckejjpillcdgaaQueueLaw
import Derived.Test.YtckejjpillcdgaaOpens
namespace Go.Proofs.Ytckejjpillcdgaa.queueOrder
open Go.ChangeShapes Go.WideShapes Go.ChangeAt Go.RowKit
open Go.ChangeMaps (open_string shut_string)
set_option linter.unusedVariables false
set_option linter.unusedSimpArgs false

theorem own : ownKnob Try.prog.godebug = none := by kernel_rfl
theorem laidOut : laidOutB Try.prog = true := by kernel_rfl

theorem mid_snoc (zs : List Int) (i j : Nat) (hj : j ≤ i) (hi : i < zs.length) : vals_int ((zs.take i).drop j) ++ [.int .i64 zs[i]] = vals_int ((zs.take (i + 1)).drop j) := by
  rw [List.take_succ_eq_append_getElem hi, List.drop_append_of_le_length (by rw [List.length_take]; omega), vals_snoc_int]
theorem mid_cons (zs : List Int) (i j : Nat) (hj : j < i) (hi : i ≤ zs.length) : vals_int ((zs.take i).drop j) = .int .i64 (zs[j]'(by omega)) :: vals_int ((zs.take i).drop (j + 1)) := by
  rw [vals_drop_int _ _ (by rw [List.length_take]; omega)]
  simp
theorem mid_len (zs : List Int) (i j : Nat) (hi : i ≤ zs.length) : (vals_int ((zs.take i).drop j)).length = i - j := by
  rw [vals_len_int, List.length_drop, List.length_take]; omega

def RoInv (w : World) (gq c room : Nat) (zs : List Int) (i : Nat) (v : Value) (wr : World) : Prop :=
  ∃ j, j ≤ i ∧ i - j ≤ room ∧ QRow wr 57 w.heap.size gq c room (vals_int ((zs.take i).drop j)) ∧ wr.ownsRow w.heap.size 3 1 v j (vals_int (zs.take j)) ∧ Below w.heap.size w wr

set_option maxHeartbeats 2000000 in
theorem walk (p : Option Addr) (cap : Nat) (zs : List Int) (room : Int) (w : World) (hz : zs.length ≤ 9223372036854775807) (hs : Rds w 1 p zs.length (zs.map (Value.int .i64))) (_ : (Lit.int .i64 room).wf = true) :
    Calls Try.prog 3 #[.slice p zs.length cap, .int .i64 room] w fun e w' => e = .returned (.bool true) ∧ Below w.heap.size w w' := by
  have HS := Lib.hid (show Rds w 1 p zs.length (vals_int zs) from hs)
  have HZ := Lib.hid hz
  clear hs hz
  by_cases hlong : 200 < zs.length
  · have hl : (200 : Int) < zs.length := by omega
    go_enter Try.func3, Try.ntmps3
    go_wp2_with fail
    refine (awake_any _).mono ?_
    rintro e w1 ⟨rfl, hb1⟩
    go_wp2
    go_ret
    exact ⟨rfl, hb1⟩
  have hl : (zs.length : Int) ≤ 200 := by omega
  by_cases h1 : room < 1
  · go_enter Try.func3, Try.ntmps3
    go_wp2_with fail
    refine (awake_any _).mono ?_
    rintro e w1 ⟨rfl, hb1⟩
    go_wp2
    go_ret
    exact ⟨rfl, hb1⟩
  by_cases h2 : 50 < room
  · go_enter Try.func3, Try.ntmps3
    go_wp2_with fail
    refine (awake_any _).mono ?_
    rintro e w1 ⟨rfl, hb1⟩
    go_wp2
    go_ret
    exact ⟨rfl, hb1⟩
  have r1 : 1 ≤ room := by omega
  have r2 : room ≤ 50 := by omega
  clear h1 h2
  obtain ⟨n, rfl⟩ : ∃ n : Nat, room = n := Int.eq_ofNat_of_zero_le (by omega)
  have n1 : 1 ≤ n := by omega
  have n2 : n ≤ 50 := by omega
  go_enter Try.func3, Try.ntmps3
  go_wp2_with fail
  refine (awake_any _).mono ?_
  rintro e w1 ⟨rfl, hb1⟩
  have HB1 := Lib.hid hb1
  clear hb1
  go_wp2_with fail
  refine (q_new_int n n1 (by omega) _).mono ?_
  rintro e w2 ⟨gq, c, rfl, hq, hb2⟩
  have HI0 := Lib.hid (show RoInv w gq c n zs 0 (.slice none 0 0) w2 from ⟨0, by omega, by omega, hq.mono HB1.out.size, ⟨rfl, .inl ⟨rfl, rfl⟩⟩, below_trans HB1.out hb2⟩)
  clear hq hb2 HB1
  go_wp2_with fail
  go_loopw [7, 8] (fun v i wr => ∃ k : Nat, k ≤ zs.length ∧ i = .int .i64 k ∧ RoInv w gq c n zs k v wr) (fun _ i _ => zs.length - (intOf i).toNat)
  case atStart => exact ⟨0, by omega, rfl, HI0.out⟩
  case round =>
    obtain ⟨k, hk, rfl, j, hj, hjr, hq, ho, hb⟩ := hrel
    obtain ⟨po, co, rfl⟩ := own_shape' ho
    have HQ := Lib.hid hq
    have HO := Lib.hid ho
    have HB := Lib.hid hb
    have HR := Lib.hid (HS.out.below hb)
    clear hq ho hb HI0
    by_cases hlt : k < zs.length
    · obtain ⟨g, off, rfl, hcell⟩ := HR.out.int_at hlt
      have hcx : zs.getD k 0 = zs[k] := by simp [List.getD, List.getElem?_eq_getElem hlt]
      rw [hcx] at hcell
      have HM := Lib.hid (mid_snoc zs k j hj hlt)
      clear hcx
      by_cases hroom : k - j < n
      · have HL := Lib.hid (show (vals_int ((zs.take k).drop j)).length < n by rw [mid_len _ _ _ hk]; exact hroom)
        obtain ⟨x, hx⟩ : ∃ x, zs[k] = x := ⟨_, rfl⟩
        rw [hx] at hcell HM
        clear hx
        go_wp2_with fail
        refine (q_put_int x HQ.out HL.out).mono ?_
        rintro e w3 ⟨rfl, hq3, hg3⟩
        have HN := Lib.hid (show RoInv w gq c n zs (k + 1) (.slice po j co) w3 from ⟨j, by omega, by omega, by rw [← HM.out]; exact hq3, (HQ.out.ck hg3).own HO.out, HB.out.trans (HQ.out.belowB hg3)⟩)
        clear hq3 hg3
        go_wp2
        go_roundw
        case rel => exact ⟨k + 1, by omega, by go_num, HN.out⟩
        case measure => simp [intOf]; omega
      · have hjk : j < k := by omega
        have HF := Lib.hid (show n ≤ (vals_int ((zs.take k).drop j)).length by rw [mid_len _ _ _ hk]; omega)
        have HC := Lib.hid (mid_cons zs k j hjk hk)
        have hjz : j < zs.length := by omega
        have HT := Lib.hid (vals_take_int zs j hjz)
        have HL2 := Lib.hid (show (vals_int ((zs.take k).drop (j + 1))).length < n by rw [mid_len _ _ _ hk]; omega)
        have HM2 := Lib.hid (mid_snoc zs k (j + 1) (by omega) hlt)
        obtain ⟨x, hx⟩ : ∃ x, zs[k] = x := ⟨_, rfl⟩
        obtain ⟨y, hy⟩ : ∃ y, zs[j]'hjz = y := ⟨_, rfl⟩
        rw [hx] at hcell HM2
        rw [hy] at HC HT
        clear hx hy
        go_wp2_with fail
        refine (q_full_int x HQ.out HF.out).mono ?_
        rintro e w3 ⟨rfl, rfl⟩
        go_wp2_with fail
        refine (q_take_int y (by rw [← HC.out]; exact HQ.out)).mono ?_
        rintro e w4 ⟨rfl, hq4, hg4⟩
        have HQ4 := Lib.hid hq4
        have HO4 := Lib.hid ((HQ.out.ck hg4).own HO.out)
        have HB4 := Lib.hid (HB.out.trans (HQ.out.belowB hg4))
        have hcell4 := (HQ.out.ck hg4).cell hcell
        clear hq4 hg4 hcell
        go_wp2_with fail
        refine (q_put_int x HQ4.out HL2.out).mono ?_
        rintro e w5 ⟨rfl, hq5, hg5⟩
        have HQ5 := Lib.hid hq5
        have HO5 := Lib.hid ((HQ4.out.ck hg5).own HO4.out)
        have HB5 := Lib.hid (HB4.out.trans (HQ4.out.belowB hg5))
        clear hq5 hg5 hcell4
        go_wp2_with (at_builtin; refine app1 rfl _ _ 22 rfl w.heap.size 3 (.int .i64 0) 8 el_int rfl _ _ _ rfl HO5.out _ rfl rfl ?c1 ?c2 HB5.out.size ?_)
        case c1 => unfold maxLen; omega
        case c2 => omega
        intro v' w6 hown' hg6 hb6
        obtain ⟨p2, c2, rfl⟩ := own_shape' hown'
        have HN := Lib.hid (show RoInv w gq c n zs (k + 1) (.slice p2 (j + 1) c2) w6 from ⟨j + 1, by omega, by omega, by rw [← HM2.out]; exact HQ5.out.kept hg6 (own_row_cells HO5.out (by decide)), by rw [HT.out]; exact hown', HB5.out.trans hb6⟩)
        clear hown' hg6 hb6
        go_wp2
        go_roundw
        case rel => exact ⟨k + 1, by omega, by go_num, HN.out⟩
        case measure => simp [intOf]; omega
    · obtain rfl : k = zs.length := by omega
      have hq := HQ.out
      rw [List.take_length] at hq
      have HQ2 := Lib.hid hq
      have HDL := Lib.hid (show (zs.drop j).length ≤ 1000000 by rw [List.length_drop]; omega)
      have HE := Lib.hid (show vals_int (zs.take j) ++ vals_int (zs.drop j) = vals_int zs by simp only [vals_int, ← List.map_append, List.take_append_drop])
      have HLE := Lib.hid (show (zs.drop j).length = zs.length - j from List.length_drop)
      clear hq hlt hjr
      go_wp2_with fail
      refine (q_drain_int (zs.drop j) HQ2.out HDL.out).mono ?_
      rintro e w3 ⟨v3, rfl, ho3, _, hg3⟩
      rw [HLE.out] at ho3
      obtain ⟨p3, c3, hv3, hr3, _, _⟩ := Rds.of_read (readRow_own ho3)
      subst hv3
      have hpn : p3 = none → c3 = 0 := by
        rintro rfl
        obtain ⟨_, ⟨h, _⟩ | ⟨g, c', cur, h, _⟩⟩ := ho3
        · injection h
        · injection h with h _ _; cases h
      have HR3 := Lib.hid hr3
      have HPN := Lib.hid hpn
      have HO3 := Lib.hid ((HQ2.out.ck hg3).own HO.out)
      have HB3 := Lib.hid (HB.out.trans (HQ2.out.belowB hg3))
      have HS3 := Lib.hid (HR.out.ck (HQ2.out.ck hg3))
      clear ho3 hg3 hr3 hpn
      go_wp2_with (at_builtin; refine appOwn rfl _ _ 22 rfl w.heap.size 3 (.int .i64 0) 8 el_int rfl _ _ _ rfl HO3.out p3 _ c3 (vals_int (zs.drop j)) rfl HR3.out HPN.out ?d1 ?d2 ?d3 HB3.out.size ?_)
      case d1 => intro u hu; simp only [vals_int, List.mem_map] at hu; obtain ⟨z, _, rfl⟩ := hu; rfl
      case d2 => unfold maxLen; omega
      case d3 => omega
      intro v4 w4 ho4 hg4 hb4
      rw [HE.out] at ho4
      obtain ⟨p4, c4, hv4, hr4, _, _⟩ := Rds.of_read (readRow_own ho4)
      subst hv4
      have HR4 := Lib.hid hr4
      have HS4 := Lib.hid (HS.out.below (HB3.out.trans hb4))
      have HB4 := Lib.hid (HB3.out.trans hb4)
      clear ho4 hg4 hb4 hr4
      go_wp2_with fail
      refine (same_true zs _ _ _ _ _ HZ.out HR4.out HS4.out).mono ?_
      rintro e w5 ⟨rfl, m5, rfl⟩
      go_wp2
      go_ret
      exact ⟨rfl, below_drewN HB4.out _⟩

set_option maxRecDepth 100000 in
theorem lifted (os : Os) (started : os.Started) (H : Type) (enc : TypeId × Value → H) :
    ReturnsInHanded {} Try.checked os 3 .any (Rows.queueOrderSpec.pre6 enc Try.prog Try.f3 Rows.queueOrderRow.domain false) (Rows.queueOrderSpec.post enc Try.prog Try.f3 false true false false) := by
  refine returnsInHanded_of_change (C := Try.checked) own started (by kernel_rfl) Try.func3
    (ChangeSpec.witness6 (enc := enc) (C := Try.checked) false ⟨#[], #[.slice none 0 0, .int .i64 0], []⟩ 8 (by kernel_rfl) (by kernel_rfl) (by kernel_rfl) (by kernel_rfl)) ?_
  intro W base args ds gs before hval0 hW hcnd _
  have hval : ∀ (j : Nat) t v, Try.f3.params[j]? = some t → args[j]? = some v → Value.okWide Try.prog W .any base t v := hval0
  have hW' := hW
  obtain ⟨p, q, hA0, hV, rfl, hfz, hnd⟩ := hW
  have hA : DataW.TrodAll enc Try.prog W 0 (fun _ => true) true Try.f3.params.toList args.toList ds p := hA0
  rw [Try.params3] at hA hval
  obtain ⟨v0, vs0, d0, ds0, p0, q0, hargs, rfl, rfl, h0, r0⟩ := trodAll_cons hA
  obtain ⟨v1, vs1, d1, ds1, p1, q1, rfl, rfl, rfl, h1, r1⟩ := trodAll_cons r0
  obtain ⟨rfl, rfl, rfl⟩ := trodAll_nil r1
  obtain rfl : args = #[v0, v1] := by cases args; simp_all
  obtain ⟨rfl, rfl⟩ := trodVars_none hV
  have k0 := h0
  have lt0 : ∀ x ∈ p0, x.block < W.heap.size := by obtain ⟨m, hm⟩ := k0; exact DataW.trod_lt m _ _ _ hm
  obtain ⟨xp0, xc0, xz0, rfl, hz0, hs0, hw0⟩ := open_ints_arg Try.underlying22 Try.underlying3 (by kernel_rfl) (hval 0 22 v0 rfl rfl) h0
  obtain ⟨a1, rfl, rfl, rfl, w1⟩ := open_int Try.underlying3 (hval 1 3 v1 rfl rfl) h1
  clear hA0 hval0
  refine (walk xp0 xc0 xz0 a1 W hz0 hs0 w1).mono fun e W' ⟨he, bel⟩ => ?_
  subst he
  exact ⟨_, rfl, _, _, _, [], _, [], hW', trodAll_mk1 (shut_bool Try.underlying4 _), (trodAll_cons_mk (Below.trod laidOut (by kernel_rfl) (of_decide_eq_true (by kernel_rfl)) k0 bel lt0) (trodAll_cons_mk (shut_int Try.underlying3 w1) trodAll_mk0)), rfl, bel.frame _, fun h => by cases h⟩

theorem over : Rows.queueOrderRow.holds Try.pinned (OpenSpec.ofChange Rows.queueOrderSpec) :=
  OpenClaim.holds_of_wide 3 Try.f3 rfl rfl rfl rfl rfl rfl rfl ⟨rfl, rfl, rfl, rfl, rfl⟩ rfl rfl rfl rfl rfl (by kernel_rfl) Try.func3 (by kernel_rfl)
    (of_decide_eq_true (by kernel_rfl)) (by unfold Func.isWrapper; first | (rw [if_pos (by decide +kernel)]; kernel_rfl) | (rw [if_neg (by decide +kernel)]; exact ⟨rfl, rfl⟩))
    (fun os started H enc _ => lifted os started H enc)

theorem proved : Rows.QueueOrderSaid := over
#print axioms proved
end Go.Proofs.Ytckejjpillcdgaa.queueOrder
