/- Remarks and empty rows change nothing of a test that litmus.Parse reads: for all strings. -/
import Derived.Test.YtcaifejfkpmeeaaGreatMgaa
import Derived.Test.YtcaifejfkpmeeaaGreatMgbf
import Derived.Test.YtcaifejfkpmeeaaGreatMgbh
import Derived.Test.YtcaifejfkpmeeaaGreatMgbj
import Derived.Test.YtcaifejfkpmeeaaGreatRows
import Derived.ShutString
import Derived.ChangeOld
import Derived.Lib.SmallJoins
namespace Go.Proofs.YtcaifejfkpmeeaaGreat.litmusRemarks
open Go.ChangeShapes Go.WideShapes Go.ChangeAt Go.RowKit
open Go.ChangeMaps (open_string shut_string)
set_option linter.unusedVariables false
set_option linter.unusedSimpArgs false

theorem own : ownKnob Tryz.prog.godebug = none := by kernel_rfl
theorem laidOut : laidOutB Tryz.prog = true := by kernel_rfl

theorem lsmall_any (a0 : ByteArray) (w : World) (w0 : a0.size ≤ maxLen) :
    Calls Tryz.prog 6 #[.string a0] w fun e w' => ∃ b, e = .returned (.bool b) ∧ (b = true → a0.size ≤ 1500) ∧ Below w.heap.size w w' := by
  by_cases hs : a0.size ≤ 1500
  · have HR := Lib.hid (rrows_any a0 w (by omega) (by omega))
    have hsb : decide ((a0.size : Int) ≤ 1500) = true := decide_eq_true (by omega)
    have HS := Lib.hid hs
    clear hs w0
    go_enter Tryz.func6, Tryz.ntmps6
    go_wp2_with fail
    refine (HR.out).mono ?_
    rintro e w2 ⟨v, rfl, ho, hb⟩
    obtain ⟨p, c, rfl, _⟩ := own_form ho
    have HB := Lib.hid hb
    clear ho hb HR
    go_wp2_with fail
    go_ret
    exact ⟨_, rfl, fun _ => HS.out, HB.out⟩
  · have hsb : decide ((a0.size : Int) ≤ 1500) = false := decide_eq_false (by omega)
    clear hs w0
    go_enter Tryz.func6, Tryz.ntmps6
    go_wp2_with fail
    go_ret
    exact ⟨_, rfl, fun h => by simp at h, Below.refl _ _⟩

/-- What is asked of a source that was read. -/
theorem read_post {s : ByteArray} {w w1 : World} {e : Ending} (h : LitPost s w e w1) : ∃ f' v, e = .returned (.tuple #[.agg (srcC (litA s).1 v).toArray, .agg #[.int .i64 (litA s).2.1, .int .i64 (litA s).2.2]]) ∧ (srcC (litA s).1 v).toArray.all (·.oneCell') = true ∧ Parts w1 f' w.heap.size (litA s).1 v ∧ Sizes (litA s).1 20000 ∧ Below w.heap.size w w1 := by
  obtain ⟨f', v, rfl, hP, hs, hB⟩ := h
  exact ⟨f', v, rfl, all_oneCell_toArray (src_one hP), hP, hs, hB⟩

theorem data_app (a b : ByteArray) : (a ++ b).data.toList = a.data.toList ++ b.data.toList := by simp
theorem body_len (R : List UInt8) : ∀ L : List UInt8, (bodyL R L).length ≤ (R.length + 4) * L.length
  | [] => by simp [bodyL]
  | c :: L => by
    have ih := body_len R L
    have e : bodyL R (c :: L) = (if c = 10 then [32, 47, 47] ++ R ++ [10] else [c]) ++ bodyL R L := rfl
    rw [e, List.length_append, List.length_cons, Nat.mul_succ]
    have h1 : (if c = 10 then [32, 47, 47] ++ R ++ [10] else [c]).length ≤ R.length + 4 := by
      split
      · simp
      · simp
    omega
theorem body_size {a0 a1 T : ByteArray} {k : Nat} (h : T.data.toList = [47, 47, 32] ++ a1.data.toList ++ [10, 10] ++ bodyL a1.data.toList (a0.data.toList.take k)) (h0 : a0.size ≤ 1500) (h1 : a1.size ≤ 100) : T.size ≤ 1000000 := by
  have hl := congrArg List.length h
  have hb := body_len a1.data.toList (a0.data.toList.take k)
  have hk : (a0.data.toList.take k).length ≤ 1500 := by
    rw [List.length_take, len_list]; omega
  have hm : (a1.data.toList.length + 4) * (a0.data.toList.take k).length ≤ 104 * 1500 := Nat.mul_le_mul (by rw [len_list]; omega) hk
  rw [len_list] at hl
  simp only [List.length_append, List.length_cons, List.length_nil, len_list] at hl
  omega
theorem ext_one (s : ByteArray) (k : Nat) (h : k < s.data.toList.length) : (s.extract k (k + 1)).data.toList = [s.data.toList[k]] := by
  rw [extract_seg, seg_cons (by omega) (by omega), seg_nil]
theorem own_rd {w : World} {f : Nat → Nat} {B l : Nat} {e : TypeId} {size : Nat} {v : Value} {n : Nat} {xs : List Value} (h : OwnL w f B l e size v n xs) : ∃ p c, v = .slice p n c ∧ Rds w size p n xs := by
  obtain ⟨p, c, h1, h2, _⟩ := Rds.of_own h.1; exact ⟨p, c, h1, h2⟩

theorem body_next (R : List UInt8) (L : List UInt8) (k : Nat) (h : k < L.length) : bodyL R (L.take (k + 1)) = bodyL R (L.take k) ++ (if L[k] = 10 then [32, 47, 47] ++ R ++ [10] else [L[k]]) := by
  rw [List.take_succ_eq_append_getElem h]; unfold bodyL; rw [List.flatMap_append]; simp only [List.flatMap_cons, List.flatMap_nil, List.append_nil]
set_option maxRecDepth 100000 in
set_option maxHeartbeats 6400000 in
theorem walk (a0 a1 : ByteArray) (w : World) (w0 : a0.size ≤ maxLen) (w01 : a1.size ≤ maxLen) :
    Calls Tryz.prog 3 #[.string a0, .string a1] w fun e w' => e = .returned (.bool true) ∧ Below w.heap.size w w' := by
  have HSM := Lib.hid (fun w1 => lsmall_any a0 w1 w0)
  have HPA := Lib.hid (fun (w1 : World) => (lparse_any a0 w1 w0).mono fun e w2 h => read_post h)
  have HRM := Lib.hid (fun (t : ByteArray) h1 h2 h3 h4 => lit_remark (s := a0) (t := t) (R := a1.data.toList) h1 h2 h3 h4)
  go_enter Tryz.func3, Tryz.ntmps3
  go_wp2_with fail
  refine (awake_any _).mono ?_
  rintro e w1 ⟨rfl, hb1⟩
  have HB := Lib.hid hb1
  clear hb1
  go_wp2_with fail
  refine (HSM.out _).mono ?_
  rintro e w2 ⟨b, rfl, hbs, hb⟩
  have HB2 := Lib.hid (below_trans HB.out hb)
  clear HB hb HSM
  cases b with
  | false =>
    go_wp2_with fail
    go_ret
    exact ⟨rfl, HB2.out⟩
  | true =>
    have hsz := hbs rfl
    clear hbs
    by_cases h100 : 100 < a1.size
    · have h100b : (100 : Int) < (a1.size : Nat) := by omega
      clear h100
      go_wp2_with fail
      go_ret
      exact ⟨rfl, HB2.out⟩
    · have h100b : ¬ (100 : Int) < (a1.size : Nat) := by omega
      have HSZ := Lib.hid hsz
      clear hsz
      go_wp2_with fail
      go_loopw [5] (fun i wr => ∃ k : Nat, k ≤ a1.size ∧ i = .int .i64 k ∧ (∀ j, j < k → (32 : Int) ≤ bt a1 j ∧ bt a1 j ≤ 126) ∧ wr = w2) (fun i _ => a1.size - (intOf i).toNat)
      case atStart => exact ⟨0, by omega, rfl, fun j hj => by omega, rfl⟩
      case round =>
        obtain ⟨k, hk, rfl, hall, rfl⟩ := hrel
        have HA := Lib.hid hall
        clear hall
        by_cases hkl : k < a1.size
        · have hkn : ((k : Nat) : Int) < (a1.size : Nat) := by omega
          by_cases h1 : (a1[k].toNat : Int) < 32
          · go_wp2_with fail
            go_ret
            exact ⟨rfl, HB2.out⟩
          · by_cases h2 : (126 : Int) < (a1[k].toNat : Int)
            · go_wp2_with fail
              go_ret
              exact ⟨rfl, HB2.out⟩
            · have HBT := Lib.hid (bt_eq hkl)
              have HK := Lib.hid (And.intro h1 h2)
              go_wp2_with fail
              go_roundw
              case rel => exact ⟨k + 1, by omega, by go_num, fun j hj => by
                rcases Nat.lt_or_ge j k with hj2 | hj2
                · exact HA.out j hj2
                · obtain rfl : j = k := by omega
                  rw [HBT.out]; have := HK.out; omega, by first | rfl | trivial⟩
              case measure => simp [intOf] <;> omega
        · obtain rfl : k = a1.size := by omega
          have hkn : ¬ ((a1.size : Nat) : Int) < (a1.size : Nat) := by omega
          have HR := Lib.hid (show ∀ c ∈ a1.data.toList, 32 ≤ c.toNat ∧ c.toNat ≤ 126 from fun c hc => by
            obtain ⟨j, hj, e⟩ := List.getElem_of_mem hc
            have hj' : j < a1.size := by rw [← len_list]; exact hj
            have h := HA.out j hj'
            rw [bt_seg hj, e] at h
            omega)
          clear HA
          go_wp2_with fail
          refine (HPA.out _).mono ?_
          rintro e w3 ⟨f', v, rfl, hone, hP, hs, hb⟩
          clear HPA
          generalize litA a0 = y at *
          obtain ⟨x, ca, cb⟩ := y
          simp only at HRM hone hP hs ⊢
          have HON := Lib.hid hone
          have HB3 := Lib.hid (below_trans HB2.out hb)
          obtain ⟨S1, S2, S3⟩ := stored2 w3 (.cells #[.string ⟨#[]⟩, .slice none 0 0, .slice none 0 0, .bool false, .int .i64 0, .int .i64 0, .int .i64 0, .int .u64 0, .int .u64 0, .slice none 0 0, .slice none 0 0, .slice none 0 0, .slice none 0 0, .slice none 0 0, .slice none 0 0, .int .i64 0] 38) (.cells #[.int .i64 0, .int .i64 0] 41) 38 41 _ _ (srcC x v).toArray #[.int .i64 ca, .int .i64 cb] rfl rfl
          have HTR := Lib.hid ((hP.rd hs).below S3)
          obtain ⟨pT, cT, hvT, hrT⟩ := own_rd hP.tables
          have HRT := Lib.hid (hrT.below S3)
          have HVT := Lib.hid hvT
          clear hrT hvT
          have HSI := Lib.hid hs
          have HB4 := Lib.hid (below_trans HB3.out S3)
          have HM := Lib.hid S1
          have p0 := S2.cell 0
          have p1 := S2.cell 1
          have l1 := S1.lt
          have l2 := S2.lt
          have hi39 := Lib.hid (show (Tryz.prog.info? 38).map (·.size) = some (srcC x v).toArray.size by kernel_rfl)
          have hsz := Lib.hid (show (srcC x v).toArray.size = 16 from rfl)
          simp only [List.getElem?_cons_zero, List.getElem?_cons_succ] at p0 p1
          clear hone hb hP hs S1 S2 S3 HB2 HB3
          by_cases hc : ca = 0
          · subst hc
            have HRMM := Lib.hid (fun (t : ByteArray) h2 h3 => HRM.out t HR.out h2 h3 rfl)
            clear HRM HR
            go_wp2_with (first | (refine wpList_store_row rfl 38 (.tmp 6) (.tmp 41) rfl w3.heap.size (srcC x v).toArray rfl rfl 38 _ (heap_alloc2_old w3 _ _) hi39.out (by rw [hsz.out]; rfl) HON.out ?_) | (refine wpList_store_row rfl 41 (.tmp 7) (.tmp 42) rfl (w3.heap.size + 1) #[.int .i64 (0), .int .i64 (cb)] rfl rfl 41 _ ((setRow_other _ _ _ _ (by omega)).trans (heap_alloc2_new w3 _ _)) (by kernel_rfl) rfl (by kernel_rfl) ?_; generalize ((((w3.alloc (.cells #[.string ⟨#[]⟩, .slice none 0 0, .slice none 0 0, .bool false, .int .i64 0, .int .i64 0, .int .i64 0, .int .u64 0, .int .u64 0, .slice none 0 0, .slice none 0 0, .slice none 0 0, .slice none 0 0, .slice none 0 0, .slice none 0 0, .int .i64 0] 38)).alloc (.cells #[.int .i64 0, .int .i64 0] 41)).setRow w3.heap.size (srcC x v).toArray).setRow (w3.heap.size + 1) #[.int .i64 (0), .int .i64 (cb)]) = w4 at *))
            generalize w3.heap.size = g1 at *
            go_loopw [8, 9] (fun t i wr => ∃ (k : Nat) (T : ByteArray), k ≤ a0.size ∧ t = .string T ∧ i = .int .i64 k ∧ T.data.toList = [47, 47, 32] ++ a1.data.toList ++ [10, 10] ++ bodyL a1.data.toList (a0.data.toList.take k) ∧ wr = w4) (fun _ i _ => a0.size - (intOf i).toNat)
            case atStart => exact ⟨0, _, by omega, rfl, rfl, by rw [data_app, data_app]; simp [bodyL], rfl⟩
            case round =>
              obtain ⟨k, T, hk, rfl, rfl, hT, rfl⟩ := hrel
              have HT := Lib.hid hT
              clear hT
              have hL := len_list a0
              by_cases hkl : k < a0.size
              · have hkn : ((k : Nat) : Int) < (a0.size : Nat) := by omega
                have hk1 : ((k : Nat) : Int) + 1 ≤ (a0.size : Nat) := by omega
                have hsz' := HSZ.out
                have hts := body_size HT.out hsz' (by omega)
                have hc1 : T.size + 3 ≤ 9223372036854775807 := by omega
                have hc2 : T.size + 3 + a1.size ≤ 9223372036854775807 := by omega
                have hc3 : T.size + 3 + a1.size + (min (k + 1) a0.size - k) ≤ 9223372036854775807 := by omega
                have hc4 : T.size + (min (k + 1) a0.size - k) ≤ 9223372036854775807 := by omega
                have hwk : IntKind.i64.wrap ((k : Int) + 1) = (k : Int) + 1 := IntWalk.i64_in _ (by omega)
                have HL := Lib.hid (show a0.data.toList[k]'(by omega) = a0[k] from rfl)
                have HX := Lib.hid (ext_one a0 k (by omega))
                have HBN := Lib.hid (body_next a1.data.toList a0.data.toList k (by omega))
                by_cases h10 : a0[k] = 10
                · have h10b : (((a0[k].toNat : Nat) : Int) == 10) = true := by rw [h10]; rfl
                  have HT2 := Lib.hid (show (T ++ ⟨#[32, 47, 47]⟩ ++ a1 ++ a0.extract k (k + 1)).data.toList = [47, 47, 32] ++ a1.data.toList ++ [10, 10] ++ bodyL a1.data.toList (a0.data.toList.take (k + 1)) by
                    rw [data_app, data_app, data_app, HT.out, HX.out, HBN.out, HL.out, if_pos h10, h10]; simp)
                  clear h10 HL HX HBN hL
                  go_wp2_with fail
                  go_roundw
                  case rel => exact ⟨k + 1, _, by omega, rfl, by go_num, HT2.out, by first | rfl | trivial⟩
                  case measure => simp [intOf] <;> omega
                · have h10b : (((a0[k].toNat : Nat) : Int) == 10) = false := by
                    rw [beq_eq_false_iff_ne]; intro e; apply h10; apply UInt8.toNat_inj.1; exact Int.ofNat.inj e
                  have HT2 := Lib.hid (show (T ++ a0.extract k (k + 1)).data.toList = [47, 47, 32] ++ a1.data.toList ++ [10, 10] ++ bodyL a1.data.toList (a0.data.toList.take (k + 1)) by
                    rw [data_app, HT.out, HX.out, HBN.out, HL.out, if_neg h10]; simp)
                  clear h10 HL HX HBN hL
                  go_wp2_with fail
                  go_roundw
                  case rel => exact ⟨k + 1, _, by omega, rfl, by go_num, HT2.out, by first | rfl | trivial⟩
                  case measure => simp [intOf] <;> omega
              · obtain rfl : k = a0.size := by omega
                have hkn : ¬ ((a0.size : Nat) : Int) < (a0.size : Nat) := by omega
                have HT2 := Lib.hid (show T.data.toList = remL a1.data.toList a0.data.toList by rw [HT.out, List.take_of_length_le (by omega)]; rfl)
                clear HT hL
                by_cases h16 : 16000 < T.size
                · have h16b : (16000 : Int) < (T.size : Nat) := by omega
                  clear h16
                  go_wp2_with fail
                  go_ret
                  exact ⟨rfl, HB4.out⟩
                · have h16b : ¬ (16000 : Int) < (T.size : Nat) := by omega
                  obtain ⟨hok, hnx⟩ := HRMM.out T HT2.out (by omega)
                  have HPB := Lib.hid (fun (w1 : World) => (lparse_any T w1 (by unfold maxLen; omega)).mono fun e w2 h => read_post h)
                  clear h16 HRMM HT2
                  go_wp2_with fail
                  refine (HPB.out _).mono ?_
                  rintro e w5 ⟨f5, v5, rfl, hone5, hP5, hs5, hb5⟩
                  clear HPB
                  generalize litA T = y5 at *
                  obtain ⟨y, cc, cd⟩ := y5
                  simp only at hok hnx hone5 hP5 hs5 ⊢
                  subst hok
                  have HON5 := Lib.hid hone5
                  have HB5 := Lib.hid (below_trans HB4.out hb5)
                  obtain ⟨S4, S5, S6⟩ := stored2 w5 (.cells #[.string ⟨#[]⟩, .slice none 0 0, .slice none 0 0, .bool false, .int .i64 0, .int .i64 0, .int .i64 0, .int .u64 0, .int .u64 0, .slice none 0 0, .slice none 0 0, .slice none 0 0, .slice none 0 0, .slice none 0 0, .slice none 0 0, .int .i64 0] 38) (.cells #[.int .i64 0, .int .i64 0] 41) 38 41 _ _ (srcC y v5).toArray #[.int .i64 0, .int .i64 cd] rfl rfl
                  have HB6 := Lib.hid (below_trans HB5.out S6)
                  have HT5 := Lib.hid ((HTR.out.below hb5).below S6)
                  have HY5 := Lib.hid (((hP5.rd hs5).below S6).like (nx_cells hnx) (nx_cores hnx) (nx_cond hnx) HSI.out)
                  obtain ⟨pU, cU, hvU, hrU⟩ := own_rd hP5.tables
                  rw [← nx_tables hnx] at hvU hrU
                  have HRU := Lib.hid (hrU.below S6)
                  have HRV := Lib.hid ((HRT.out.below hb5).below S6)
                  have HM5 := Lib.hid ((HM.out.below hb5).below S6)
                  have HSM := Lib.hid (show ∀ w1 : World, TestRd w1 x v → TestRd w1 x v5 → Calls Tryz.prog 8 #[.agg #[.string x.name, v.vC, v.vCo, .bool x.fa, v.k0, v.k1, v.k2, v.k3, v.k4, v.k5], .agg #[.string x.name, v5.vC, v5.vCo, .bool x.fa, v5.k0, v5.k1, v5.k2, v5.k3, v5.k4, v5.k5]] w1 fun e w' => e = .returned (.bool true) ∧ Below w1.heap.size w1 w' from fun w1 h1 h2 => lsame_any w1 h1 h2)
                  have HNT := Lib.hid (show x.tables.length ≤ maxLen by have := HSI.out.tables; unfold maxLen; omega)
                  have q0 := S5.cell 0
                  have q1 := S5.cell 1
                  have l3 := S4.lt
                  have l4 := S5.lt
                  have l5 := HM5.out.lt
                  have hi39b := Lib.hid (show (Tryz.prog.info? 38).map (·.size) = some (srcC y v5).toArray.size by kernel_rfl)
                  have hszb := Lib.hid (show (srcC y v5).toArray.size = 16 from rfl)
                  simp only [List.getElem?_cons_zero, List.getElem?_cons_succ] at q0 q1
                  have d0 : (((((w5.alloc (.cells #[.string ⟨#[]⟩, .slice none 0 0, .slice none 0 0, .bool false, .int .i64 0, .int .i64 0, .int .i64 0, .int .u64 0, .int .u64 0, .slice none 0 0, .slice none 0 0, .slice none 0 0, .slice none 0 0, .slice none 0 0, .slice none 0 0, .int .i64 0] 38)).alloc (.cells #[.int .i64 0, .int .i64 0] 41)).setRow w5.heap.size (srcC y v5).toArray).setRow (w5.heap.size + 1) #[.int .i64 (0), .int .i64 (cd)])).cell? ⟨g1, 0, none⟩ = some (.string x.name) := HM5.out.cell 0
                  have d1 : (((((w5.alloc (.cells #[.string ⟨#[]⟩, .slice none 0 0, .slice none 0 0, .bool false, .int .i64 0, .int .i64 0, .int .i64 0, .int .u64 0, .int .u64 0, .slice none 0 0, .slice none 0 0, .slice none 0 0, .slice none 0 0, .slice none 0 0, .slice none 0 0, .int .i64 0] 38)).alloc (.cells #[.int .i64 0, .int .i64 0] 41)).setRow w5.heap.size (srcC y v5).toArray).setRow (w5.heap.size + 1) #[.int .i64 (0), .int .i64 (cd)])).cell? ⟨g1, 1, none⟩ = some (v.vC) := HM5.out.cell 1
                  have d2 : (((((w5.alloc (.cells #[.string ⟨#[]⟩, .slice none 0 0, .slice none 0 0, .bool false, .int .i64 0, .int .i64 0, .int .i64 0, .int .u64 0, .int .u64 0, .slice none 0 0, .slice none 0 0, .slice none 0 0, .slice none 0 0, .slice none 0 0, .slice none 0 0, .int .i64 0] 38)).alloc (.cells #[.int .i64 0, .int .i64 0] 41)).setRow w5.heap.size (srcC y v5).toArray).setRow (w5.heap.size + 1) #[.int .i64 (0), .int .i64 (cd)])).cell? ⟨g1, 2, none⟩ = some (v.vCo) := HM5.out.cell 2
                  have d3 : (((((w5.alloc (.cells #[.string ⟨#[]⟩, .slice none 0 0, .slice none 0 0, .bool false, .int .i64 0, .int .i64 0, .int .i64 0, .int .u64 0, .int .u64 0, .slice none 0 0, .slice none 0 0, .slice none 0 0, .slice none 0 0, .slice none 0 0, .slice none 0 0, .int .i64 0] 38)).alloc (.cells #[.int .i64 0, .int .i64 0] 41)).setRow w5.heap.size (srcC y v5).toArray).setRow (w5.heap.size + 1) #[.int .i64 (0), .int .i64 (cd)])).cell? ⟨g1, 3, none⟩ = some (.bool x.fa) := HM5.out.cell 3
                  have d4 : (((((w5.alloc (.cells #[.string ⟨#[]⟩, .slice none 0 0, .slice none 0 0, .bool false, .int .i64 0, .int .i64 0, .int .i64 0, .int .u64 0, .int .u64 0, .slice none 0 0, .slice none 0 0, .slice none 0 0, .slice none 0 0, .slice none 0 0, .slice none 0 0, .int .i64 0] 38)).alloc (.cells #[.int .i64 0, .int .i64 0] 41)).setRow w5.heap.size (srcC y v5).toArray).setRow (w5.heap.size + 1) #[.int .i64 (0), .int .i64 (cd)])).cell? ⟨g1, 4, none⟩ = some (v.k0) := HM5.out.cell 4
                  have d5 : (((((w5.alloc (.cells #[.string ⟨#[]⟩, .slice none 0 0, .slice none 0 0, .bool false, .int .i64 0, .int .i64 0, .int .i64 0, .int .u64 0, .int .u64 0, .slice none 0 0, .slice none 0 0, .slice none 0 0, .slice none 0 0, .slice none 0 0, .slice none 0 0, .int .i64 0] 38)).alloc (.cells #[.int .i64 0, .int .i64 0] 41)).setRow w5.heap.size (srcC y v5).toArray).setRow (w5.heap.size + 1) #[.int .i64 (0), .int .i64 (cd)])).cell? ⟨g1, 5, none⟩ = some (v.k1) := HM5.out.cell 5
                  have d6 : (((((w5.alloc (.cells #[.string ⟨#[]⟩, .slice none 0 0, .slice none 0 0, .bool false, .int .i64 0, .int .i64 0, .int .i64 0, .int .u64 0, .int .u64 0, .slice none 0 0, .slice none 0 0, .slice none 0 0, .slice none 0 0, .slice none 0 0, .slice none 0 0, .int .i64 0] 38)).alloc (.cells #[.int .i64 0, .int .i64 0] 41)).setRow w5.heap.size (srcC y v5).toArray).setRow (w5.heap.size + 1) #[.int .i64 (0), .int .i64 (cd)])).cell? ⟨g1, 6, none⟩ = some (v.k2) := HM5.out.cell 6
                  have d7 : (((((w5.alloc (.cells #[.string ⟨#[]⟩, .slice none 0 0, .slice none 0 0, .bool false, .int .i64 0, .int .i64 0, .int .i64 0, .int .u64 0, .int .u64 0, .slice none 0 0, .slice none 0 0, .slice none 0 0, .slice none 0 0, .slice none 0 0, .slice none 0 0, .int .i64 0] 38)).alloc (.cells #[.int .i64 0, .int .i64 0] 41)).setRow w5.heap.size (srcC y v5).toArray).setRow (w5.heap.size + 1) #[.int .i64 (0), .int .i64 (cd)])).cell? ⟨g1, 7, none⟩ = some (v.k3) := HM5.out.cell 7
                  have d8 : (((((w5.alloc (.cells #[.string ⟨#[]⟩, .slice none 0 0, .slice none 0 0, .bool false, .int .i64 0, .int .i64 0, .int .i64 0, .int .u64 0, .int .u64 0, .slice none 0 0, .slice none 0 0, .slice none 0 0, .slice none 0 0, .slice none 0 0, .slice none 0 0, .int .i64 0] 38)).alloc (.cells #[.int .i64 0, .int .i64 0] 41)).setRow w5.heap.size (srcC y v5).toArray).setRow (w5.heap.size + 1) #[.int .i64 (0), .int .i64 (cd)])).cell? ⟨g1, 8, none⟩ = some (v.k4) := HM5.out.cell 8
                  have d9 : (((((w5.alloc (.cells #[.string ⟨#[]⟩, .slice none 0 0, .slice none 0 0, .bool false, .int .i64 0, .int .i64 0, .int .i64 0, .int .u64 0, .int .u64 0, .slice none 0 0, .slice none 0 0, .slice none 0 0, .slice none 0 0, .slice none 0 0, .slice none 0 0, .int .i64 0] 38)).alloc (.cells #[.int .i64 0, .int .i64 0] 41)).setRow w5.heap.size (srcC y v5).toArray).setRow (w5.heap.size + 1) #[.int .i64 (0), .int .i64 (cd)])).cell? ⟨g1, 9, none⟩ = some (v.k5) := HM5.out.cell 9
                  have d10 : (((((w5.alloc (.cells #[.string ⟨#[]⟩, .slice none 0 0, .slice none 0 0, .bool false, .int .i64 0, .int .i64 0, .int .i64 0, .int .u64 0, .int .u64 0, .slice none 0 0, .slice none 0 0, .slice none 0 0, .slice none 0 0, .slice none 0 0, .slice none 0 0, .int .i64 0] 38)).alloc (.cells #[.int .i64 0, .int .i64 0] 41)).setRow w5.heap.size (srcC y v5).toArray).setRow (w5.heap.size + 1) #[.int .i64 (0), .int .i64 (cd)])).cell? ⟨g1, 10, none⟩ = some (.slice pT x.tables.length cT) := by rw [← HVT.out]; exact HM5.out.cell 10
                  have e0 : (((((w5.alloc (.cells #[.string ⟨#[]⟩, .slice none 0 0, .slice none 0 0, .bool false, .int .i64 0, .int .i64 0, .int .i64 0, .int .u64 0, .int .u64 0, .slice none 0 0, .slice none 0 0, .slice none 0 0, .slice none 0 0, .slice none 0 0, .slice none 0 0, .int .i64 0] 38)).alloc (.cells #[.int .i64 0, .int .i64 0] 41)).setRow w5.heap.size (srcC y v5).toArray).setRow (w5.heap.size + 1) #[.int .i64 (0), .int .i64 (cd)])).cell? ⟨w5.heap.size, 0, none⟩ = some (.string x.name) := by rw [nx_name hnx]; exact S4.cell 0
                  have e1 : (((((w5.alloc (.cells #[.string ⟨#[]⟩, .slice none 0 0, .slice none 0 0, .bool false, .int .i64 0, .int .i64 0, .int .i64 0, .int .u64 0, .int .u64 0, .slice none 0 0, .slice none 0 0, .slice none 0 0, .slice none 0 0, .slice none 0 0, .slice none 0 0, .int .i64 0] 38)).alloc (.cells #[.int .i64 0, .int .i64 0] 41)).setRow w5.heap.size (srcC y v5).toArray).setRow (w5.heap.size + 1) #[.int .i64 (0), .int .i64 (cd)])).cell? ⟨w5.heap.size, 1, none⟩ = some (v5.vC) := by exact S4.cell 1
                  have e2 : (((((w5.alloc (.cells #[.string ⟨#[]⟩, .slice none 0 0, .slice none 0 0, .bool false, .int .i64 0, .int .i64 0, .int .i64 0, .int .u64 0, .int .u64 0, .slice none 0 0, .slice none 0 0, .slice none 0 0, .slice none 0 0, .slice none 0 0, .slice none 0 0, .int .i64 0] 38)).alloc (.cells #[.int .i64 0, .int .i64 0] 41)).setRow w5.heap.size (srcC y v5).toArray).setRow (w5.heap.size + 1) #[.int .i64 (0), .int .i64 (cd)])).cell? ⟨w5.heap.size, 2, none⟩ = some (v5.vCo) := by exact S4.cell 2
                  have e3 : (((((w5.alloc (.cells #[.string ⟨#[]⟩, .slice none 0 0, .slice none 0 0, .bool false, .int .i64 0, .int .i64 0, .int .i64 0, .int .u64 0, .int .u64 0, .slice none 0 0, .slice none 0 0, .slice none 0 0, .slice none 0 0, .slice none 0 0, .slice none 0 0, .int .i64 0] 38)).alloc (.cells #[.int .i64 0, .int .i64 0] 41)).setRow w5.heap.size (srcC y v5).toArray).setRow (w5.heap.size + 1) #[.int .i64 (0), .int .i64 (cd)])).cell? ⟨w5.heap.size, 3, none⟩ = some (.bool x.fa) := by rw [nx_fa hnx]; exact S4.cell 3
                  have e4 : (((((w5.alloc (.cells #[.string ⟨#[]⟩, .slice none 0 0, .slice none 0 0, .bool false, .int .i64 0, .int .i64 0, .int .i64 0, .int .u64 0, .int .u64 0, .slice none 0 0, .slice none 0 0, .slice none 0 0, .slice none 0 0, .slice none 0 0, .slice none 0 0, .int .i64 0] 38)).alloc (.cells #[.int .i64 0, .int .i64 0] 41)).setRow w5.heap.size (srcC y v5).toArray).setRow (w5.heap.size + 1) #[.int .i64 (0), .int .i64 (cd)])).cell? ⟨w5.heap.size, 4, none⟩ = some (v5.k0) := by exact S4.cell 4
                  have e5 : (((((w5.alloc (.cells #[.string ⟨#[]⟩, .slice none 0 0, .slice none 0 0, .bool false, .int .i64 0, .int .i64 0, .int .i64 0, .int .u64 0, .int .u64 0, .slice none 0 0, .slice none 0 0, .slice none 0 0, .slice none 0 0, .slice none 0 0, .slice none 0 0, .int .i64 0] 38)).alloc (.cells #[.int .i64 0, .int .i64 0] 41)).setRow w5.heap.size (srcC y v5).toArray).setRow (w5.heap.size + 1) #[.int .i64 (0), .int .i64 (cd)])).cell? ⟨w5.heap.size, 5, none⟩ = some (v5.k1) := by exact S4.cell 5
                  have e6 : (((((w5.alloc (.cells #[.string ⟨#[]⟩, .slice none 0 0, .slice none 0 0, .bool false, .int .i64 0, .int .i64 0, .int .i64 0, .int .u64 0, .int .u64 0, .slice none 0 0, .slice none 0 0, .slice none 0 0, .slice none 0 0, .slice none 0 0, .slice none 0 0, .int .i64 0] 38)).alloc (.cells #[.int .i64 0, .int .i64 0] 41)).setRow w5.heap.size (srcC y v5).toArray).setRow (w5.heap.size + 1) #[.int .i64 (0), .int .i64 (cd)])).cell? ⟨w5.heap.size, 6, none⟩ = some (v5.k2) := by exact S4.cell 6
                  have e7 : (((((w5.alloc (.cells #[.string ⟨#[]⟩, .slice none 0 0, .slice none 0 0, .bool false, .int .i64 0, .int .i64 0, .int .i64 0, .int .u64 0, .int .u64 0, .slice none 0 0, .slice none 0 0, .slice none 0 0, .slice none 0 0, .slice none 0 0, .slice none 0 0, .int .i64 0] 38)).alloc (.cells #[.int .i64 0, .int .i64 0] 41)).setRow w5.heap.size (srcC y v5).toArray).setRow (w5.heap.size + 1) #[.int .i64 (0), .int .i64 (cd)])).cell? ⟨w5.heap.size, 7, none⟩ = some (v5.k3) := by exact S4.cell 7
                  have e8 : (((((w5.alloc (.cells #[.string ⟨#[]⟩, .slice none 0 0, .slice none 0 0, .bool false, .int .i64 0, .int .i64 0, .int .i64 0, .int .u64 0, .int .u64 0, .slice none 0 0, .slice none 0 0, .slice none 0 0, .slice none 0 0, .slice none 0 0, .slice none 0 0, .int .i64 0] 38)).alloc (.cells #[.int .i64 0, .int .i64 0] 41)).setRow w5.heap.size (srcC y v5).toArray).setRow (w5.heap.size + 1) #[.int .i64 (0), .int .i64 (cd)])).cell? ⟨w5.heap.size, 8, none⟩ = some (v5.k4) := by exact S4.cell 8
                  have e9 : (((((w5.alloc (.cells #[.string ⟨#[]⟩, .slice none 0 0, .slice none 0 0, .bool false, .int .i64 0, .int .i64 0, .int .i64 0, .int .u64 0, .int .u64 0, .slice none 0 0, .slice none 0 0, .slice none 0 0, .slice none 0 0, .slice none 0 0, .slice none 0 0, .int .i64 0] 38)).alloc (.cells #[.int .i64 0, .int .i64 0] 41)).setRow w5.heap.size (srcC y v5).toArray).setRow (w5.heap.size + 1) #[.int .i64 (0), .int .i64 (cd)])).cell? ⟨w5.heap.size, 9, none⟩ = some (v5.k5) := by exact S4.cell 9
                  have e10 : (((((w5.alloc (.cells #[.string ⟨#[]⟩, .slice none 0 0, .slice none 0 0, .bool false, .int .i64 0, .int .i64 0, .int .i64 0, .int .u64 0, .int .u64 0, .slice none 0 0, .slice none 0 0, .slice none 0 0, .slice none 0 0, .slice none 0 0, .slice none 0 0, .int .i64 0] 38)).alloc (.cells #[.int .i64 0, .int .i64 0] 41)).setRow w5.heap.size (srcC y v5).toArray).setRow (w5.heap.size + 1) #[.int .i64 (0), .int .i64 (cd)])).cell? ⟨w5.heap.size, 10, none⟩ = some (.slice pU x.tables.length cU) := by rw [← hvU]; exact S4.cell 10
                  have HS4 := Lib.hid S4
                  have HVU := Lib.hid hvU
                  clear hone5 hb5 S4 S5 S6 hP5 hs5 hvU hrU p0 p1 hnx HM HTR HRT HB4 HB5
                  go_wp2_with (first | (refine wpList_store_row rfl 38 (.tmp 10) (.tmp 76) rfl w5.heap.size (srcC y v5).toArray rfl rfl 38 _ (heap_alloc2_old w5 _ _) hi39b.out (by rw [hszb.out]; rfl) HON5.out ?_) | (refine wpList_store_row rfl 41 (.tmp 11) (.tmp 77) rfl (w5.heap.size + 1) #[.int .i64 (0), .int .i64 (cd)] rfl rfl 41 _ ((setRow_other _ _ _ _ (by omega)).trans (heap_alloc2_new w5 _ _)) (by kernel_rfl) rfl (by kernel_rfl) ?_; generalize ((((w5.alloc (.cells #[.string ⟨#[]⟩, .slice none 0 0, .slice none 0 0, .bool false, .int .i64 0, .int .i64 0, .int .i64 0, .int .u64 0, .int .u64 0, .slice none 0 0, .slice none 0 0, .slice none 0 0, .slice none 0 0, .slice none 0 0, .slice none 0 0, .int .i64 0] 38)).alloc (.cells #[.int .i64 0, .int .i64 0] 41)).setRow w5.heap.size (srcC y v5).toArray).setRow (w5.heap.size + 1) #[.int .i64 (0), .int .i64 (cd)]) = w6 at *))
                  refine (HSM.out _ HT5.out HY5.out).mono ?_
                  rintro e w7 ⟨rfl, hb⟩
                  have HB7 := Lib.hid (below_trans HB6.out hb)
                  have z1 : w7.cell? ⟨g1, 10, none⟩ = some (.slice pT x.tables.length cT) := by rw [← HVT.out]; exact (HM5.out.below hb).cell 10
                  have z2 : w7.cell? ⟨w5.heap.size, 10, none⟩ = some (.slice pU x.tables.length cU) := by rw [← HVU.out]; exact (HS4.out.below hb).cell 10
                  have z3 := (HM5.out.below hb).lt
                  have z4 := (HS4.out.below hb).lt
                  have HTB := Lib.hid (ltables_any (c := cT) (d := cU) w7 (HRV.out.below hb) (HRU.out.below hb) HNT.out)
                  clear hb HSM HT5 HY5 HM5 HS4
                  go_wp2_with fail
                  refine (HTB.out).mono ?_
                  rintro e w' ⟨rfl, m, rfl⟩
                  go_wp2_with fail
                  go_ret
                  exact ⟨rfl, below_drewN HB7.out m⟩
          · have hcb : (ca != 0) = true := bne_iff_ne.2 hc
            clear hc HRM HR HTR
            go_wp2_with (first | (refine wpList_store_row rfl 38 (.tmp 6) (.tmp 41) rfl w3.heap.size (srcC x v).toArray rfl rfl 38 _ (heap_alloc2_old w3 _ _) hi39.out (by rw [hsz.out]; rfl) HON.out ?_) | (refine wpList_store_row rfl 41 (.tmp 7) (.tmp 42) rfl (w3.heap.size + 1) #[.int .i64 (ca), .int .i64 (cb)] rfl rfl 41 _ ((setRow_other _ _ _ _ (by omega)).trans (heap_alloc2_new w3 _ _)) (by kernel_rfl) rfl (by kernel_rfl) ?_; generalize ((((w3.alloc (.cells #[.string ⟨#[]⟩, .slice none 0 0, .slice none 0 0, .bool false, .int .i64 0, .int .i64 0, .int .i64 0, .int .u64 0, .int .u64 0, .slice none 0 0, .slice none 0 0, .slice none 0 0, .slice none 0 0, .slice none 0 0, .slice none 0 0, .int .i64 0] 38)).alloc (.cells #[.int .i64 0, .int .i64 0] 41)).setRow w3.heap.size (srcC x v).toArray).setRow (w3.heap.size + 1) #[.int .i64 (ca), .int .i64 (cb)]) = w4 at *))
            go_ret
            exact ⟨rfl, HB4.out⟩

set_option maxRecDepth 100000 in
theorem lifted (os : Os) (started : os.Started) (H : Type) (enc : TypeId × Value → H) :
    ReturnsInHanded {} Tryz.checked os 3 .any (Rows.litmusRemarksSpec.pre6 enc Tryz.prog Tryz.f3 Rows.litmusRemarksRow.domain false) (Rows.litmusRemarksSpec.post enc Tryz.prog Tryz.f3 false true false false) := by
  refine returnsInHanded_of_change (C := Tryz.checked) own started (by kernel_rfl) Tryz.func3
    (ChangeSpec.witness6 (enc := enc) (C := Tryz.checked) false ⟨#[], #[.string ByteArray.empty, .string ByteArray.empty], []⟩ 8 (by kernel_rfl) (by kernel_rfl) (by kernel_rfl) (by kernel_rfl)) ?_
  intro W base args ds gs before hval0 hW hcnd _
  have hval : ∀ (j : Nat) t v, Tryz.f3.params[j]? = some t → args[j]? = some v → Value.okWide Tryz.prog W .any base t v := hval0
  have hW' := hW
  obtain ⟨p, q, hA0, hV, rfl, hfz, hnd⟩ := hW
  have hA : DataW.TrodAll enc Tryz.prog W 0 (fun _ => true) true Tryz.f3.params.toList args.toList ds p := hA0
  rw [Tryz.params3] at hA hval
  obtain ⟨v0, vs0, d0, ds0, p0, q0, hargs, rfl, rfl, h0, r0⟩ := trodAll_cons hA
  obtain ⟨v1, vs1, d1, ds1, p1, q1, rfl, rfl, rfl, h1, r1⟩ := trodAll_cons r0
  obtain ⟨rfl, rfl, rfl⟩ := trodAll_nil r1
  obtain rfl : args = #[v0, v1] := by cases args; simp_all
  obtain ⟨rfl, rfl⟩ := trodVars_none hV
  obtain ⟨a0, rfl, rfl, rfl, w0⟩ := open_string Tryz.underlying9 (hval 0 9 v0 rfl rfl) h0
  obtain ⟨a1, rfl, rfl, rfl, w1⟩ := open_string Tryz.underlying9 (hval 1 9 v1 rfl rfl) h1
  clear hA0 hval0
  refine (walk a0 a1 W w0 w1).mono fun e W' ⟨he, bel⟩ => ?_
  subst he
  exact ⟨_, rfl, _, _, _, [], _, [], hW', trodAll_mk1 (shut_bool Tryz.underlying4 _), (trodAll_cons_mk (shut_string Tryz.underlying9 w0) (trodAll_cons_mk (shut_string Tryz.underlying9 w1) trodAll_mk0)), rfl, bel.frame _, fun h => by cases h⟩

theorem over : Rows.litmusRemarksRow.holds Tryz.pinned (OpenSpec.ofChange Rows.litmusRemarksSpec) :=
  OpenClaim.holds_of_wide 3 Tryz.f3 rfl rfl rfl rfl rfl rfl rfl ⟨rfl, rfl, rfl, rfl, rfl⟩ rfl rfl rfl rfl rfl (by kernel_rfl) Tryz.func3 (by kernel_rfl)
    (of_decide_eq_true (by kernel_rfl)) (by unfold Func.isWrapper; first | (rw [if_pos (by decide +kernel)]; kernel_rfl) | (rw [if_neg (by decide +kernel)]; exact ⟨rfl, rfl⟩))
    (fun os started H enc _ => lifted os started H enc)

theorem proved : Rows.LitmusRemarksSaid := over
#print axioms proved
end Go.Proofs.YtcaifejfkpmeeaaGreat.litmusRemarks
