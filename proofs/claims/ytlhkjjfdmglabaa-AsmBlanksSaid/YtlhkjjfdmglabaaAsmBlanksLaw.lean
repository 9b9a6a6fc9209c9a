/- Blanks between the parts of an instruction's text change nothing. -/
import Derived.Test.YtlhkjjfdmglabaaRows
import Derived.Test.YtlhkjjfdmglabaaBase
import Derived.ShutString
import Derived.ChangeOld
import Derived.Lib.SmallJoins
import Derived.Test.YtlhkjjfdmglabaaAsmAwake
import Derived.Test.YtlhkjjfdmglabaaAsmBack
import Derived.Test.YtlhkjjfdmglabaaAsmRWords
import Derived.Test.YtlhkjjfdmglabaaInstrOpen
import Derived.Test.YtlhkjjfdmglabaaOpens
namespace Go.Proofs.Ytlhkjjfdmglabaa.asmBlanks
open Go.ChangeShapes Go.WideShapes Go.ChangeAt Go.RowKit
open Go.ChangeMaps (open_string shut_string)
set_option linter.unusedVariables false
set_option linter.unusedSimpArgs false

theorem own : ownKnob Try.prog.godebug = none := by kernel_rfl
theorem laidOut : laidOutB Try.prog = true := by kernel_rfl

theorem wf_i64_bd {z : Int} (h : (Lit.int .i64 z).wf = true) : I64 z := by
  have h' := h
  simp [Lit.wf, IntKind.min, IntKind.max, IntKind.bits, IntKind.signed] at h'
  omega
theorem lens {op : Int} (ho : 1 ≤ op ∧ op ≤ 23) (k : Int) : (nameL op).length ≤ 4 ∧ (barL k).length ≤ 5 ∧ (flushL k).length ≤ 9 ∧ (sysL k).length ≤ 7 := by
  refine ⟨?_, ?_, ?_, ?_⟩
  · have h : ∀ j : Nat, j < 24 → (nameL (j : Int)).length ≤ 4 := by decide
    have h1 := h op.toNat (by omega)
    rw [Int.toNat_of_nonneg (by omega)] at h1; exact h1
  · unfold barL
    repeat (split; · decide)
    decide
  · unfold flushL
    repeat (split; · decide)
    decide
  · unfold sysL
    repeat (split; · decide)
    decide
theorem textA_len {op d n m imm kind : Int} (h : rightP op d n m imm kind) (hi : I64 imm) : (textA op d n m imm kind).length ≤ 1000 := by
  obtain ⟨⟨hop, hd, hn, hm⟩, hB, hC, hD⟩ := h
  have hk : I64 kind := by unfold rightB at hB; unfold rightC at hC; unfold rightD at hD; constructor <;> omega
  have hk6 : op = 6 → 0 ≤ kind ∧ kind ≤ 3 := by unfold rightC at hC; omega
  have b1 := intL_len imm hi
  have b2 := regL_len d (by constructor <;> omega)
  have b3 := regL_len n (by constructor <;> omega)
  have b4 := regL_len m (by constructor <;> omega)
  obtain ⟨b5, b6, b7, b8⟩ := lens hop kind
  have b9 : (immL imm).length ≤ 66 := by unfold immL; simp; omega
  have b10 : (targetL imm).length ≤ 67 := by unfold targetL; split <;> (simp; omega)
  have b11 : op = 6 → (intL (16 * kind)).length ≤ 65 := fun e => intL_len _ (by have := hk6 e; constructor <;> omega)
  clear hB hC hD hk6
  have ho : op = 1 ∨ op = 2 ∨ op = 3 ∨ op = 4 ∨ op = 5 ∨ op = 6 ∨ op = 7 ∨ op = 8 ∨ op = 9 ∨ op = 10 ∨ op = 11 ∨ op = 12 ∨ op = 13 ∨ op = 14 ∨ op = 15 ∨ op = 16 ∨ op = 17 ∨ op = 18 ∨ op = 19 ∨ op = 20 ∨ op = 21 ∨ op = 22 ∨ op = 23 := by omega
  rcases ho with rfl | rfl | rfl | rfl | rfl | rfl | rfl | rfl | rfl | rfl | rfl | rfl | rfl | rfl | rfl | rfl | rfl | rfl | rfl | rfl | rfl | rfl | rfl
  all_goals (simp [textA, threeL])
  all_goals (try split)
  all_goals (try simp)
  all_goals (try omega)
theorem textA_ne {op d n m imm kind : Int} (h : rightP op d n m imm kind) : (textA op d n m imm kind).isEmpty = false := by
  cases hh : textA op d n m imm kind with
  | cons c l => rfl
  | nil =>
    have h1 := back_words h
    rw [hh] at h1
    have h2 : (instrA (wordsL [], false)).2.2 = true := by kernel_rfl
    rw [h1] at h2
    cases h2

/-- A part of a text. -/
def okW (w : List UInt8) : Prop := wordB w = true ∨ ∃ c, w = [c] ∧ ownC c = true ∧ blankC c = false
theorem wordsL_ok : ∀ (n : Nat) (l : List UInt8), l.length ≤ n → ∀ q ∈ wordsL l, okW q
  | _, [], _, q, hq => by simp [wordsL] at hq
  | 0, c :: l, h, _, _ => by simp at h
  | n + 1, c :: l, h, q, hq => by
    have hl : l.length ≤ n := by simpa using h
    cases hb : blankC c with
    | true => rw [wordsL_blank hb] at hq; exact wordsL_ok n l hl q hq
    | false =>
      cases ho : ownC c with
      | true =>
        rw [wordsL_own hb ho] at hq
        rcases List.mem_cons.1 hq with rfl | hq
        · exact .inr ⟨c, rfl, ho, hb⟩
        · exact wordsL_ok n l hl q hq
      | false =>
        have hw : wc c = true := by simp [wc, hb, ho]
        rw [wordsL_word _ _ hw] at hq
        rcases List.mem_cons.1 hq with rfl | hq
        · left
          unfold wordB
          simp only [List.isEmpty_cons, Bool.not_false, Bool.true_and, List.all_cons, hw]
          exact List.all_takeWhile
        · exact wordsL_ok n _ (Nat.le_trans (List.dropWhile_suffix wc).length_le hl) q hq
theorem okW_words {w r : List UInt8} (h : okW w) (hr : startB r = true) : wordsL (w ++ r) = w :: wordsL r := by
  rcases h with h | ⟨c, rfl, ho, hb⟩
  · exact wl h hr
  · exact wordsL_own hb ho r
/-- Words, so many blanks ahead of each. -/
def bt (f : Nat → Nat) : Nat → List (List UInt8) → List UInt8
  | _, [] => []
  | i, w :: ws => List.replicate (f i) 32 ++ (w ++ bt f (i + 1) ws)
theorem bt_start {f : Nat → Nat} (hf : ∀ i, 1 ≤ f i) (i : Nat) (ws : List (List UInt8)) : startB (bt f i ws) = true := by
  cases ws with
  | nil => rfl
  | cons w ws =>
    have := hf i
    unfold bt
    obtain ⟨m, hm⟩ : ∃ m, f i = m + 1 := ⟨f i - 1, by omega⟩
    rw [hm, List.replicate_succ]
    rfl
theorem wl_rep (m : Nat) (r : List UInt8) : wordsL (List.replicate m 32 ++ r) = wordsL r := by
  induction m with
  | zero => rfl
  | succ m ih => rw [List.replicate_succ, List.cons_append, wl_sp, ih]
theorem bt_words {f : Nat → Nat} (hf : ∀ i, 1 ≤ f i) : ∀ (ws : List (List UInt8)) (i : Nat), (∀ q ∈ ws, okW q) → wordsL (bt f i ws) = ws
  | [], _, _ => rfl
  | w :: ws, i, h => by
    unfold bt
    rw [wl_rep, okW_words (h w (by simp)) (bt_start hf _ _), bt_words hf ws (i + 1) (fun q hq => h q (by simp [hq]))]
theorem bt_app (f : Nat → Nat) : ∀ (a b : List (List UInt8)) (i : Nat), bt f i (a ++ b) = bt f i a ++ bt f (i + a.length) b
  | [], b, i => by simp [bt]
  | w :: a, b, i => by
    simp only [List.cons_append, bt, bt_app f a b (i + 1), List.length_cons]
    rw [show i + 1 + a.length = i + (a.length + 1) by omega]
    simp
theorem bt_snoc (f : Nat → Nat) (l : List (List UInt8)) (k : Nat) (h : k < l.length) : bt f 0 (l.take (k + 1)) = bt f 0 (l.take k) ++ (List.replicate (f k) 32 ++ l[k]) := by
  rw [List.take_succ_eq_append_getElem h, bt_app]
  simp only [List.length_take, Nat.zero_add, Nat.min_eq_left (Nat.le_of_lt h), bt, List.append_nil]
theorem bt_len {f : Nat → Nat} (hf : ∀ i, f i ≤ 4) : ∀ (ws : List (List UInt8)) (i : Nat), (∀ q ∈ ws, q.length ≤ 1000) → (bt f i ws).length ≤ 1004 * ws.length
  | [], _, _ => by simp [bt]
  | w :: ws, i, h => by
    have h1 := bt_len hf ws (i + 1) (fun q hq => h q (by simp [hq]))
    have h2 := h w (by simp)
    have h3 := hf i
    simp only [bt, List.length_append, List.length_replicate, List.length_cons]
    omega
def cnt (zs : List Int) (i : Nat) : Nat := if 0 < zs.getD i 0 ∧ zs.getD i 0 < 5 then (zs.getD i 0).toNat else 1
theorem cnt_bd (zs : List Int) (i : Nat) : 1 ≤ cnt zs i ∧ cnt zs i ≤ 4 := by
  unfold cnt; split <;> omega
set_option maxRecDepth 100000 in
set_option maxHeartbeats 3200000 in
theorem walk (op d n m imm kind : Int) (p : Option Addr) (cap : Nat) (zs : List Int) (w : World) (hi : I64 imm) (hz : zs.length ≤ 9223372036854775807) (hs : Rds w 1 p zs.length (zs.map (Value.int .i64))) :
    Calls Try.prog 7 #[.agg #[.int .i64 op, .int .i64 d, .int .i64 n, .int .i64 m, .int .i64 imm, .int .i64 kind], .slice p zs.length cap] w fun e w' => e = .returned (.bool true) ∧ Below w.heap.size w w' := by
  have HX := Lib.hid (own_instr w op d n m imm kind)
  have HB := Lib.hid (below_alloc (Below.refl w.heap.size w) (.cells #[.int .i64 op, .int .i64 d, .int .i64 n, .int .i64 m, .int .i64 imm, .int .i64 kind] 23))
  have HP := Lib.hid (fun w1 => aprint_any op d n m imm kind w1 hi)
  have HS := Lib.hid hs
  clear hs
  go_enter Try.func7, Try.ntmps7
  go_wp2_with fail
  refine (awake_any _).mono ?_
  rintro e w2 ⟨rfl, hb⟩
  have HX2 := Lib.hid (HX.out.below hb)
  have HB2 := Lib.hid (below_trans HB.out hb)
  have hl2 := HX2.out.lt
  obtain ⟨n0, n1, n2, n3, n4, n5⟩ := blk_instr HX2.out
  clear hb HX HB
  go_wp2_with fail
  refine (HP.out _).mono ?_
  rintro e w3 ⟨rfl, hb⟩
  have HX3 := Lib.hid (HX2.out.below hb)
  have HB3 := Lib.hid (below_trans HB2.out hb)
  have hl3 := HX3.out.lt
  clear n0 n1 n2 n3 n4 n5 hb HX2 HB2
  by_cases hr : rightP op d n m imm kind
  case neg =>
    have HT := Lib.hid (show printA op d n m imm kind = [] from if_neg hr)
    rw [HT.out]
    have hte : (ba []).toList.isEmpty = true := by rw [ba_toList]; rfl
    clear hr HT
    go_wp2_with fail
    go_ret
    exact ⟨rfl, HB3.out⟩
  have HT := Lib.hid (show printA op d n m imm kind = textA op d n m imm kind from if_pos hr)
  have hte : (ba (textA op d n m imm kind)).toList.isEmpty = false := by rw [ba_toList]; exact textA_ne hr
  by_cases h30 : 30 < zs.length
  case pos =>
    rw [HT.out]
    have h30i : (30 : Int) < zs.length := by omega
    clear hr HT
    generalize textA op d n m imm kind = T at *
    go_wp2_with fail
    go_ret
    exact ⟨rfl, HB3.out⟩
  have h30i : ¬ (30 : Int) < zs.length := by omega
  have htl := textA_len hr hi
  have hwl := wordsL_len (textA op d n m imm kind)
  have HWO := Lib.hid (words_any (ba (textA op d n m imm kind)) w3 (by rw [ba_size]; omega))
  unfold SomeWords at HWO
  rw [ba_data] at HWO
  have HOK := Lib.hid (wordsL_ok _ (textA op d n m imm kind) (Nat.le_refl _))
  have HQ := Lib.hid (fun q (hq : q ∈ wordsL (textA op d n m imm kind)) => Nat.le_trans (wordsL_le _ q hq) htl)
  have HBA := Lib.hid (fun (t : List UInt8) (ht : wordsL t = wordsL (textA op d n m imm kind)) => back_any hr ht)
  rw [HT.out]
  clear hr HT
  generalize wordsL (textA op d n m imm kind) = l at *
  generalize textA op d n m imm kind = T0 at *
  have HLEN := Lib.hid (fun k : Nat => show (bt (cnt zs) 0 (l.take k)).length ≤ 1004000 from by
    have h1 := bt_len (f := cnt zs) (fun i => (cnt_bd zs i).2) (l.take k) 0 (fun q hq => HQ.out q (List.mem_of_mem_take hq))
    have h2 : (l.take k).length ≤ 1000 := by rw [List.length_take]; omega
    omega)
  go_wp2_with fail
  refine (HWO.out).mono ?_
  rintro e w4 ⟨v, rfl, ho, hb⟩
  obtain ⟨p2, c2, rfl, hR, hc2⟩ := Rds.of_own ho
  have HR := Lib.hid hR
  have HX4 := Lib.hid (HX3.out.below hb)
  have hl4 := HX4.out.lt
  have HB4 := Lib.hid (below_trans HB3.out hb)
  have HS4 := Lib.hid (HS.out.below HB4.out)
  clear hb ho hR HX3 HB3 HS HWO
  have hl1 : l.length ≤ 1000 := by omega
  clear hwl htl
  go_wp2_with fail
  go_loop [7, 8] (fun t i => ∃ k : Nat, k ≤ l.length ∧ i = .int .i64 k ∧ t = .string (ba (bt (cnt zs) 0 (l.take k)))) (fun _ i => l.length - (intOf i).toNat)
  case atStart => exact ⟨0, by omega, rfl, rfl⟩
  case round =>
    obtain ⟨k, hk, rfl, rfl⟩ := hrel
    by_cases hkl : k < l.length
    · have hk0 : (0 : Int) ≤ k := by omega
      have hkn : (k : Int) < l.length := by omega
      obtain ⟨g, off, u, rfl, hu, hcell⟩ := HR.out.at_ (j := k) (by omega)
      obtain rfl : u = .string (ba (l[k])) := by
        simp only [List.getElem?_map, List.getElem?_eq_getElem hkl, Option.map_some] at hu
        injection hu with hu
        exact hu.symm
      have hlk := HQ.out _ (List.getElem_mem hkl)
      clear hu
      have HCD := Lib.hid (show cnt zs k = if 0 < zs.getD k 0 ∧ zs.getD k 0 < 5 then (zs.getD k 0).toNat else 1 from rfl)
      have HGD := Lib.hid (fun (h : ¬ k < zs.length) => show zs.getD k 0 = 0 by simp [List.getD, List.getElem?_eq_none (show zs.length ≤ k by omega)])
      by_cases hkz : k < zs.length
      · have hkzi : (k : Int) < zs.length := by omega
        obtain ⟨g3, off3, rfl, hcz⟩ := HS4.out.int_at hkz
        clear HGD
        generalize zs.getD k 0 = z at *
        by_cases hz0 : 0 < z
        · by_cases hz5 : z < 5
          · obtain ⟨N, rfl⟩ := Int.eq_ofNat_of_zero_le (show 0 ≤ z by omega)
            have HC := Lib.hid (show cnt zs k = N by rw [HCD.out, if_pos ⟨hz0, hz5⟩]; omega)
            clear HCD
            go_wp2_with fail
            go_loop [7, 10] (fun t j => ∃ q : Nat, q ≤ N ∧ j = .int .i64 q ∧ t = .string (ba (bt (cnt zs) 0 (l.take k) ++ List.replicate q 32))) (fun _ j => N - (intOf j).toNat)
            case atStart => exact ⟨0, by omega, rfl, by simp⟩
            case round =>
              obtain ⟨q, hq, rfl, rfl⟩ := hrel
              by_cases hqn : q < N
              · have hq0 : (0 : Int) ≤ q := by omega
                have hqi : (q : Int) < (N : Int) := by omega
                have HT2 := Lib.hid (show bt (cnt zs) 0 (l.take k) ++ List.replicate (q + 1) 32 = (bt (cnt zs) 0 (l.take k) ++ List.replicate q 32) ++ [32] by rw [List.replicate_succ']; simp)
                have hbl := HLEN.out k
                have hql : (bt (cnt zs) 0 (l.take k) ++ List.replicate q 32).length ≤ 2000000 := by simp; omega
                generalize bt (cnt zs) 0 (l.take k) ++ List.replicate q 32 = T at *
                have hcat : ∀ wx : World, (Op.stringOp .add (ba T) ({ data := #[32] } : ByteArray)).run Try.prog wx = .ok (.string (ba (T ++ [32]))) wx := fun wx => cat_big T [32] (by simp; omega) wx
                go_wp2_with fail
                go_round
                case rel => exact ⟨q + 1, by omega, by go_num, by rw [HT2.out]⟩
                case measure => simp [intOf] <;> omega
              · have hqN : N = q := by omega
                subst hqN
                have HT3 := Lib.hid (show bt (cnt zs) 0 (l.take (k + 1)) = (bt (cnt zs) 0 (l.take k) ++ List.replicate N 32) ++ l[k] from by rw [bt_snoc _ _ _ hkl, HC.out]; simp)
                have hbl := HLEN.out k
                have hql : (bt (cnt zs) 0 (l.take k) ++ List.replicate N 32).length ≤ 2000000 := by simp; omega
                generalize bt (cnt zs) 0 (l.take k) ++ List.replicate N 32 = T at *
                have hcat : ∀ wx : World, (Op.stringOp .add (ba T) (ba (l[k]))).run Try.prog wx = .ok (.string (ba (T ++ l[k]))) wx := fun wx => cat_big T _ (by omega) wx
                go_wp2_with fail
                go_round
                case rel => exact ⟨k + 1, by omega, by go_num, by rw [HT3.out]⟩
                case measure => simp [intOf] <;> omega
          · have HC := Lib.hid (show cnt zs k = 1 by rw [HCD.out, if_neg (by omega)])
            clear HCD
            go_wp2_with fail
            go_loop [7, 10] (fun t j => ∃ q : Nat, q ≤ 1 ∧ j = .int .i64 q ∧ t = .string (ba (bt (cnt zs) 0 (l.take k) ++ List.replicate q 32))) (fun _ j => 1 - (intOf j).toNat)
            case atStart => exact ⟨0, by omega, rfl, by simp⟩
            case round =>
              obtain ⟨q, hq, rfl, rfl⟩ := hrel
              by_cases hqn : q < 1
              · have hq0 : (0 : Int) ≤ q := by omega
                have hqi : (q : Int) < 1 := by omega
                have HT2 := Lib.hid (show bt (cnt zs) 0 (l.take k) ++ List.replicate (q + 1) 32 = (bt (cnt zs) 0 (l.take k) ++ List.replicate q 32) ++ [32] by rw [List.replicate_succ']; simp)
                have hbl := HLEN.out k
                have hql : (bt (cnt zs) 0 (l.take k) ++ List.replicate q 32).length ≤ 2000000 := by simp; omega
                generalize bt (cnt zs) 0 (l.take k) ++ List.replicate q 32 = T at *
                have hcat : ∀ wx : World, (Op.stringOp .add (ba T) ({ data := #[32] } : ByteArray)).run Try.prog wx = .ok (.string (ba (T ++ [32]))) wx := fun wx => cat_big T [32] (by simp; omega) wx
                go_wp2_with fail
                go_round
                case rel => exact ⟨q + 1, by omega, by go_num, by rw [HT2.out]⟩
                case measure => simp [intOf] <;> omega
              · have hqN : 1 = q := by omega
                subst hqN
                have HT3 := Lib.hid (show bt (cnt zs) 0 (l.take (k + 1)) = (bt (cnt zs) 0 (l.take k) ++ List.replicate 1 32) ++ l[k] from by rw [bt_snoc _ _ _ hkl, HC.out]; simp)
                have hbl := HLEN.out k
                have hql : (bt (cnt zs) 0 (l.take k) ++ List.replicate 1 32).length ≤ 2000000 := by simp; omega
                generalize bt (cnt zs) 0 (l.take k) ++ List.replicate 1 32 = T at *
                have hcat : ∀ wx : World, (Op.stringOp .add (ba T) (ba (l[k]))).run Try.prog wx = .ok (.string (ba (T ++ l[k]))) wx := fun wx => cat_big T _ (by omega) wx
                go_wp2_with fail
                go_round
                case rel => exact ⟨k + 1, by omega, by go_num, by rw [HT3.out]⟩
                case measure => simp [intOf] <;> omega
        · have HC := Lib.hid (show cnt zs k = 1 by rw [HCD.out, if_neg (by omega)])
          clear HCD
          go_wp2_with fail
          go_loop [7, 10] (fun t j => ∃ q : Nat, q ≤ 1 ∧ j = .int .i64 q ∧ t = .string (ba (bt (cnt zs) 0 (l.take k) ++ List.replicate q 32))) (fun _ j => 1 - (intOf j).toNat)
          case atStart => exact ⟨0, by omega, rfl, by simp⟩
          case round =>
            obtain ⟨q, hq, rfl, rfl⟩ := hrel
            by_cases hqn : q < 1
            · have hq0 : (0 : Int) ≤ q := by omega
              have hqi : (q : Int) < 1 := by omega
              have HT2 := Lib.hid (show bt (cnt zs) 0 (l.take k) ++ List.replicate (q + 1) 32 = (bt (cnt zs) 0 (l.take k) ++ List.replicate q 32) ++ [32] by rw [List.replicate_succ']; simp)
              have hbl := HLEN.out k
              have hql : (bt (cnt zs) 0 (l.take k) ++ List.replicate q 32).length ≤ 2000000 := by simp; omega
              generalize bt (cnt zs) 0 (l.take k) ++ List.replicate q 32 = T at *
              have hcat : ∀ wx : World, (Op.stringOp .add (ba T) ({ data := #[32] } : ByteArray)).run Try.prog wx = .ok (.string (ba (T ++ [32]))) wx := fun wx => cat_big T [32] (by simp; omega) wx
              go_wp2_with fail
              go_round
              case rel => exact ⟨q + 1, by omega, by go_num, by rw [HT2.out]⟩
              case measure => simp [intOf] <;> omega
            · have hqN : 1 = q := by omega
              subst hqN
              have HT3 := Lib.hid (show bt (cnt zs) 0 (l.take (k + 1)) = (bt (cnt zs) 0 (l.take k) ++ List.replicate 1 32) ++ l[k] from by rw [bt_snoc _ _ _ hkl, HC.out]; simp)
              have hbl := HLEN.out k
              have hql : (bt (cnt zs) 0 (l.take k) ++ List.replicate 1 32).length ≤ 2000000 := by simp; omega
              generalize bt (cnt zs) 0 (l.take k) ++ List.replicate 1 32 = T at *
              have hcat : ∀ wx : World, (Op.stringOp .add (ba T) (ba (l[k]))).run Try.prog wx = .ok (.string (ba (T ++ l[k]))) wx := fun wx => cat_big T _ (by omega) wx
              go_wp2_with fail
              go_round
              case rel => exact ⟨k + 1, by omega, by go_num, by rw [HT3.out]⟩
              case measure => simp [intOf] <;> omega
      · have hkzi : ¬ (k : Int) < zs.length := by omega
        have HC := Lib.hid (show cnt zs k = 1 by rw [HCD.out, HGD.out hkz]; rfl)
        clear HCD HGD
        go_wp2_with fail
        go_loop [7, 10] (fun t j => ∃ q : Nat, q ≤ 1 ∧ j = .int .i64 q ∧ t = .string (ba (bt (cnt zs) 0 (l.take k) ++ List.replicate q 32))) (fun _ j => 1 - (intOf j).toNat)
        case atStart => exact ⟨0, by omega, rfl, by simp⟩
        case round =>
          obtain ⟨q, hq, rfl, rfl⟩ := hrel
          by_cases hqn : q < 1
          · have hq0 : (0 : Int) ≤ q := by omega
            have hqi : (q : Int) < 1 := by omega
            have HT2 := Lib.hid (show bt (cnt zs) 0 (l.take k) ++ List.replicate (q + 1) 32 = (bt (cnt zs) 0 (l.take k) ++ List.replicate q 32) ++ [32] by rw [List.replicate_succ']; simp)
            have hbl := HLEN.out k
            have hql : (bt (cnt zs) 0 (l.take k) ++ List.replicate q 32).length ≤ 2000000 := by simp; omega
            generalize bt (cnt zs) 0 (l.take k) ++ List.replicate q 32 = T at *
            have hcat : ∀ wx : World, (Op.stringOp .add (ba T) ({ data := #[32] } : ByteArray)).run Try.prog wx = .ok (.string (ba (T ++ [32]))) wx := fun wx => cat_big T [32] (by simp; omega) wx
            go_wp2_with fail
            go_round
            case rel => exact ⟨q + 1, by omega, by go_num, by rw [HT2.out]⟩
            case measure => simp [intOf] <;> omega
          · have hqN : 1 = q := by omega
            subst hqN
            have HT3 := Lib.hid (show bt (cnt zs) 0 (l.take (k + 1)) = (bt (cnt zs) 0 (l.take k) ++ List.replicate 1 32) ++ l[k] from by rw [bt_snoc _ _ _ hkl, HC.out]; simp)
            have hbl := HLEN.out k
            have hql : (bt (cnt zs) 0 (l.take k) ++ List.replicate 1 32).length ≤ 2000000 := by simp; omega
            generalize bt (cnt zs) 0 (l.take k) ++ List.replicate 1 32 = T at *
            have hcat : ∀ wx : World, (Op.stringOp .add (ba T) (ba (l[k]))).run Try.prog wx = .ok (.string (ba (T ++ l[k]))) wx := fun wx => cat_big T _ (by omega) wx
            go_wp2_with fail
            go_round
            case rel => exact ⟨k + 1, by omega, by go_num, by rw [HT3.out]⟩
            case measure => simp [intOf] <;> omega
    · obtain rfl : k = l.length := by omega
      have HL := Lib.hid (HLEN.out l.length)
      have HBT := Lib.hid (bt_words (f := cnt zs) (fun i => (cnt_bd zs i).1) l 0 HOK.out)
      rw [List.take_length] at HL ⊢
      have HPA := Lib.hid (fun w1 => aparse_any (ba (bt (cnt zs) 0 l)) w1 (by rw [ba_size]; have := HL.out; omega))
      rw [ba_data, HBA.out _ HBT.out] at HPA
      clear HLEN HL HBT HBA HQ HOK
      go_wp2_with fail
      refine (HPA.out _).mono ?_
      rintro e w5 ⟨rfl, hb⟩
      have HX5 := Lib.hid (HX4.out.below hb)
      have HB5 := Lib.hid (below_trans HB4.out hb)
      have hl5 := HX5.out.lt
      clear hb HX4 HB4
      obtain ⟨n0, n1, n2, n3, n4, n5⟩ := blk_instr HX5.out
      simp only [insV, instrW]
      go_wp2_with fail
      go_ret
      exact ⟨rfl, by repeat (first | exact HB5.out | refine below_alloc ?_ _)⟩

set_option maxRecDepth 100000 in
theorem lifted (os : Os) (started : os.Started) (H : Type) (enc : TypeId × Value → H) :
    ReturnsInHanded {} Try.checked os 7 .any (Rows.asmBlanksSpec.pre6 enc Try.prog Try.f7 Rows.asmBlanksRow.domain false) (Rows.asmBlanksSpec.post enc Try.prog Try.f7 false true false false) := by
  refine returnsInHanded_of_change (C := Try.checked) own started (by kernel_rfl) Try.func7
    (ChangeSpec.witness6 (enc := enc) (C := Try.checked) false ⟨#[], #[.agg #[.int .i64 0, .int .i64 0, .int .i64 0, .int .i64 0, .int .i64 0, .int .i64 0], .slice none 0 0], []⟩ 8 (by kernel_rfl) (by kernel_rfl) (by kernel_rfl) (by kernel_rfl)) ?_
  intro W base args ds gs before hval0 hW hcnd _
  have hval : ∀ (j : Nat) t v, Try.f7.params[j]? = some t → args[j]? = some v → Value.okWide Try.prog W .any base t v := hval0
  have hW' := hW
  obtain ⟨p, q, hA0, hV, rfl, hfz, hnd⟩ := hW
  have hA : DataW.TrodAll enc Try.prog W 0 (fun _ => true) true Try.f7.params.toList args.toList ds p := hA0
  rw [Try.params7] at hA hval
  obtain ⟨v0, vs0, d0, ds0, p0, q0, hargs, rfl, rfl, h0, r0⟩ := trodAll_cons hA
  obtain ⟨v1, vs1, d1, ds1, p1, q1, rfl, rfl, rfl, h1, r1⟩ := trodAll_cons r0
  obtain ⟨rfl, rfl, rfl⟩ := trodAll_nil r1
  obtain rfl : args = #[v0, v1] := by cases args; simp_all
  obtain ⟨rfl, rfl⟩ := trodVars_none hV
  have k0 := h0
  have lt0 : ∀ x ∈ p0, x.block < W.heap.size := by obtain ⟨m, hm⟩ := k0; exact DataW.trod_lt m _ _ _ hm
  obtain ⟨o0, x0, n0, m0, y0, c0, rfl, wz0⟩ := open_instr (hval 0 23 v0 rfl rfl) h0
  have k1 := h1
  have lt1 : ∀ x ∈ p1, x.block < W.heap.size := by obtain ⟨m, hm⟩ := k1; exact DataW.trod_lt m _ _ _ hm
  obtain ⟨xp1, xc1, xz1, rfl, hz1, hs1, hw1⟩ := open_ints_arg Try.underlying37 Try.underlying3 (by kernel_rfl) (hval 1 37 v1 rfl rfl) h1
  clear hA0 hval0
  refine (walk o0 x0 n0 m0 y0 c0 xp1 xc1 xz1 W (wf_i64_bd (wz0 _ (by simp))) hz1 hs1).mono fun e W' ⟨he, bel⟩ => ?_
  subst he
  exact ⟨_, rfl, _, _, _, [], _, [], hW', trodAll_mk1 (shut_bool Try.underlying4 _), (trodAll_cons_mk (Below.trod laidOut (by kernel_rfl) (of_decide_eq_true (by kernel_rfl)) k0 bel lt0) (trodAll_cons_mk (Below.trod laidOut (by kernel_rfl) (of_decide_eq_true (by kernel_rfl)) k1 bel lt1) trodAll_mk0)), rfl, bel.frame _, fun h => by cases h⟩

theorem over : Rows.asmBlanksRow.holds Try.pinned (OpenSpec.ofChange Rows.asmBlanksSpec) :=
  OpenClaim.holds_of_wide 7 Try.f7 rfl rfl rfl rfl rfl rfl rfl ⟨rfl, rfl, rfl, rfl, rfl⟩ rfl rfl rfl rfl rfl (by kernel_rfl) Try.func7 (by kernel_rfl)
    (of_decide_eq_true (by kernel_rfl)) (by unfold Func.isWrapper; first | (rw [if_pos (by decide +kernel)]; kernel_rfl) | (rw [if_neg (by decide +kernel)]; exact ⟨rfl, rfl⟩))
    (fun os started H enc _ => lifted os started H enc)

theorem proved : Rows.AsmBlanksSaid := over
#print axioms proved
end Go.Proofs.Ytlhkjjfdmglabaa.asmBlanks
