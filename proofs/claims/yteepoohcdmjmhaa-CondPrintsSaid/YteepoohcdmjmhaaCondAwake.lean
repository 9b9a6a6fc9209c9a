/- awake of layer 11. -/
import Derived.Test.YteepoohcdmjmhaaCondRead
import Derived.Test.YteepoohcdmjmhaaCondPrint
namespace Go.Proofs.Yteepoohcdmjmhaa
open Go.RowKit
set_option linter.unusedVariables false
set_option linter.unusedSimpArgs false

def AWC : ByteArray := ⟨#[48, 58, 88, 49, 61, 48, 120, 49, 32, 47, 92, 32, 126, 91, 48, 120, 49, 48, 93, 61, 48, 120, 48]⟩
def AWK : List (Nat × Nat × Nat) := [(2, 0, 1), (3, 1, 2), (1, 2, 4), (3, 4, 5), (2, 5, 8), (3, 9, 11), (3, 12, 13), (3, 13, 14), (2, 14, 18), (3, 18, 19), (3, 19, 20), (2, 20, 23), (4, 23, 23)]
theorem aw_toks : toksF AWC 0 [] = (AWK, 0, 23) := by kernel_rfl
def AWTK : List Tk := tkOf AWC 0 AWK
def AWT : CT := .mk 4 0 0 0 0 [.mk 1 0 1 0 1 [], .mk 6 0 0 0 0 [.mk 2 0 0 16 0 []]]
theorem aw_parse : parseC AWTK ⟨0, 0, 0⟩ = (AWT, ⟨12, 0, 0⟩) := by kernel_rfl
theorem aw_print : printT AWT = AWC.data.toList := by kernel_rfl
theorem aw_sizes : ∀ t ∈ AWTK, t.2.1.size ≤ 1048576 := by
  unfold AWTK tkOf AWK
  intro t ht
  simp only [List.map_cons, List.map_nil, List.mem_cons, List.not_mem_nil, or_false] at ht
  rcases ht with h | h | h | h | h | h | h | h | h | h | h | h | h <;> (rw [h]; decide +kernel)
set_option maxRecDepth 100000 in
set_option maxHeartbeats 3200000 in
theorem cawake_any (w : World) :
    Calls Try.prog 8 #[] w fun e w' => e = .returned (.bool true) ∧ Below w.heap.size w w' := by
  go_enter Try.func8, Try.ntmps8
  go_wp2_with fail
  refine (tokens_any AWC 0 _ (by decide) (by decide)).mono ?_
  rintro e w1 ⟨v, rfl, ho, hb⟩
  unfold toksAt
  rw [aw_toks] at ho ⊢
  obtain ⟨p, c, rfl, hr, hp⟩ := own_slice (show w1.ownsRow w.heap.size 63 3 v 13 (tokCells AWC 0 AWK) from ho)
  have HB1 := Lib.hid hb
  have HR1 := Lib.hid (show Rds w1 3 p 13 (tkL AWTK) from by rw [show tkL AWTK = tokCells AWC 0 AWK from tkOf_cells _ _ _]; exact hr)
  have HP1 := Lib.hid hp
  clear ho hb hr hp
  have HBA := Lib.hid (show Below w1.heap.size w1 (w1.alloc (.cells #[.int .i64 0, .int .i64 0] 33)) from below_alloc (Below.refl _ _) _)
  have HNA := Lib.hid (show Blk (w1.alloc (.cells #[.int .i64 0, .int .i64 0] 33)) 33 w1.heap.size [.int .i64 0, .int .i64 0] from Blk.new _ _ _)
  have HC := Lib.hid (read_any (c := c) (tk := AWTK) _ (HR1.out.below HBA.out) rfl (fun a ha => by have := HP1.out a ha; simp; omega) (by decide) aw_sizes)
  go_wp2_with fail
  refine (HC.out).mono ?_
  rintro e w2 ⟨rfl, hr, hb⟩
  have hsz : w1.heap.size + 1 ≤ w2.heap.size := by have := hb.size; simp at this; omega
  have HB2 := Lib.hid (below_trans (below_trans HB1.out HBA.out) hb)
  have HN2 := Lib.hid (HNA.out.below hb)
  have HPL := Lib.hid (fun a (ha : p = some a) => show a.block < w2.heap.size by have := HP1.out a ha; omega)
  have HC := Lib.hid (cparse_any w2 hr HPL.out)
  have hrs : (w1.alloc (.cells #[.int .i64 0, .int .i64 0] 33)).heap.size = w1.heap.size + 1 := by simp
  rw [hrs] at HC ⊢
  have hwl : w.heap.size ≤ w1.heap.size := HB1.out.size
  clear hr hb HNA HBA HR1 HB1
  rw [aw_parse] at HC
  go_wp2_with fail
  refine (HC.out).mono ?_
  rintro e w3 ⟨cs, rfl, ht, hr, hg⟩
  obtain ⟨q, cap, hcs, q1, q2, q3, q4, q5⟩ := CT.At.own (show CT.At w3 _ AWT cs from ht)
  subst hcs
  have hsz3 : w1.heap.size + 1 < w3.heap.size := hr.lt
  have HN3 := Lib.hid (HN2.out.kept hg (by intro e; injection e; omega))
  have HB3 := Lib.hid (show Below w.heap.size w w3 from HB2.out.grown hg (by omega) (fun k hk => by injection hk; omega))
  have HT := Lib.hid ht
  have HR3 := Lib.hid hr
  clear ht hr hg HC HN2 HB2 q5
  have HBA := Lib.hid (show Below w3.heap.size w3 (w3.alloc (.cells #[.int .i64 4, .int .i64 0, .int .i64 0, .int .u64 0, .int .u64 0, .slice q 2 cap] 25)) from below_alloc (Below.refl _ _) _)
  have HNA := Lib.hid (own_box w3 #[.int .i64 4, .int .i64 0, .int .i64 0, .int .u64 0, .int .u64 0, .slice q 2 cap])
  have HTA := Lib.hid (HT.out.below HBA.out)
  have HRA := Lib.hid (rbad_any _ (HR3.out.below HBA.out))
  have hcode : w3.cell? ⟨w1.heap.size, 0, none⟩ = some (.int .i64 0) := HN3.out.cell 0
  have hlt1 : w1.heap.size < w3.heap.size := by omega
  go_wp2_with fail
  refine (HRA.out).mono ?_
  rintro e w5 ⟨rfl, hb⟩
  have HB5 := Lib.hid (below_trans (below_trans HB3.out HBA.out) hb)
  have HN5 := Lib.hid (HNA.out.below hb)
  have HT5 := Lib.hid (HTA.out.below hb)
  have hlt5 : w3.heap.size < w5.heap.size := by have := hb.size; simp at this; omega
  clear hb HRA HNA HTA HBA HR3
  obtain ⟨n0, n1, n2, n3, n4, n5⟩ := blk_cells6' HN5.out
  have HC := Lib.hid (ccount_any AWT w5 _ _ (by decide) HT5.out)
  have hpf := fun (a b : Int) (w : World) => (show (Instr.field 33 (.agg #[.int .i64 a, .int .i64 b]) 0).run Try.prog w = .ok (.int .i64 a) w by kernel_rfl)
  have hpf0 := hpf 0 0
  clear hpf
  go_wp2_with fail
  refine (HC.out).mono ?_
  rintro e w6 ⟨rfl, hb⟩
  have HB6 := Lib.hid (below_trans HB5.out hb)
  have HN6 := Lib.hid (HN5.out.below hb)
  have HT6 := Lib.hid (HT5.out.below hb)
  have hc4 : ((countT AWT : Nat) : Int) = 4 := by rfl
  clear hb HC HN5 HT5 n0 n1 n2 n3 n4 n5
  rw [hc4]
  obtain ⟨n0, n1, n2, n3, n4, n5⟩ := blk_cells6' HN6.out
  have HC := Lib.hid (print_any AWT w6 _ _ (by decide) HT6.out)
  rw [show ba (printT AWT) = AWC from by rw [aw_print]; rfl] at HC
  go_wp2_with fail
  refine (HC.out).mono ?_
  rintro e w7 ⟨rfl, hb⟩
  have HB7 := Lib.hid (below_trans HB6.out hb)
  clear hb HC
  go_wp2_with fail
  go_ret
  exact ⟨ret_bool (show (AWC.toList == [48, 58, 88, 49, 61, 48, 120, 49, 32, 47, 92, 32, 126, 91, 48, 120, 49, 48, 93, 61, 48, 120, 48]) = true from by rw [toList_ba]; rfl), HB7.out⟩
end Go.Proofs.Yteepoohcdmjmhaa
