/- granuleref06.Cells: the walk. -/
import Derived.Test.YtmnojnopejhebaaGreatMgah
import Derived.Test.YtmnojnopejhebaaGreatMgai
import Derived.Test.YtmnojnopejhebaaGreatMgbj
namespace Go.Proofs.YtmnojnopejhebaaGreat
set_option linter.unusedVariables false
set_option linter.unusedSimpArgs false
set_option maxRecDepth 100000
set_option maxHeartbeats 25600000
section
open Go.RowKit
theorem u0o (w : World) {kv vv : Value} {m : List (Nat × Nat)} (h : MapAt w kv vv m) (k : Nat) (hk : k < 18446744073709551616) (hn : k ∉ m.map Prod.fst) :
  Calls Tryz.prog 118 #[.agg #[kv, vv], .int .u64 (k : Nat)] w fun e w' => e = .returned (.agg #[kv, vv]) ∧ Below w.heap.size w w' := by
 have HB1 := h_ (show Below w.heap.size w ((w.alloc (.cells #[kv, vv] 57)).alloc (.cells #[.slice none 0 0, .slice none 0 0] 57)) from bl_ (bl_ (Below.refl _ _) _) _)
 have HM := h_ (show Blk ((w.alloc (.cells #[kv, vv] 57)).alloc (.cells #[.slice none 0 0, .slice none 0 0] 57)) 57 w.heap.size [kv, vv] from (Blk.new w _ _).alloc _)
 have HR := h_ (show Blk ((w.alloc (.cells #[kv, vv] 57)).alloc (.cells #[.slice none 0 0, .slice none 0 0] 57)) 57 (w.heap.size + 1) [.slice none 0 0, .slice none 0 0] from by simpa using Blk.new (w.alloc (.cells #[kv, vv] 57)) 57 [.slice none 0 0, .slice none 0 0])
 have HF := h_ (r0q _ (vv := vv) (h.keys.below HB1.out) h.ris (by rw [List.length_map]; exact h.len) k hk)
 rw [decide_eq_false hn] at HF
 obtain ⟨p, c, rfl, _⟩ := h.keys
 obtain ⟨q, d, rfl, _⟩ := h.vals
 clear h hn
 generalize m.map Prod.fst = ks at *
 generalize m.map Prod.snd = vs at *
 generalize lbK k ks = i at *
 go_enter Tryz.func118, Tryz.ntmps118
 have m0 := HM.out.cell 0
 have m1 := HM.out.cell 1
 have ml := HM.out.lt
 simp only [gz_, gs_] at m0 m1
 go_wp2_with fail
 refine (HF.out).mono ?_
 rintro e w2 ⟨rfl, hb⟩
 have HB2 := h_ (bt_ HB1.out hb)
 have HM2 := h_ (HM.out.below hb)
 have HR2 := h_ (HR.out.below hb)
 clear hb HF HB1 HM HR m0 m1 ml
 have m0 := HM2.out.cell 0
 have m1 := HM2.out.cell 1
 have ml := HM2.out.lt
 simp only [gz_, gs_] at m0 m1
 have r0 := HR2.out.cell 0
 have r1 := HR2.out.cell 1
 have rf0 := HR2.out.free 0
 have rf1 := HR2.out.free 1
 have rl := HR2.out.lt
 simp only [gz_, gs_] at r0 r1
 have HFN := h_ (Blk.set (HR2.out.set 0 (.slice p ks.length c)) 1 (.slice q vs.length d))
 go_wp2_with fail
 refine bodyPost_ret (results_cell_row rfl _ _ (w.heap.size + 1) 57 #[.slice p ks.length c, .slice q vs.length d] (0, 0) _ rfl HFN.out Tryz.underlying57 rfl (by kernel_rfl)) rfl ⟨rfl, ?_⟩
 exact (HB2.out.setCell (Nat.le_succ _) _).setCell (Nat.le_succ _) _
theorem k1w (w : World) {kv vv : Value} {m : List (Nat × Nat)} (h : MapAt w kv vv m) :
  Calls Tryz.prog 120 #[.agg #[kv, vv]] w fun e w' => e = .returned (.int .i64 m.length) ∧ Below w.heap.size w w' := by
 have HB1 := h_ (show Below w.heap.size w (w.alloc (.cells #[kv, vv] 57)) from bl_ (Below.refl _ _) _)
 have HM := h_ (show Blk (w.alloc (.cells #[kv, vv] 57)) 57 w.heap.size [kv, vv] from Blk.new w _ _)
 have HN := h_ (show (m.map Prod.fst).length = m.length by simp)
 obtain ⟨p, c, rfl, _⟩ := h.keys
 clear h
 generalize m.map Prod.fst = ks at *
 go_enter Tryz.func120, Tryz.ntmps120
 have m0 := HM.out.cell 0
 have m1 := HM.out.cell 1
 have ml := HM.out.lt
 simp only [gz_, gs_] at m0 m1
 go_wp2_with fail
 go_ret
 exact ⟨by rw [← HN.out]; rfl, HB1.out⟩
theorem b1f (w : World) {kv vv : Value} {m : List (Nat × Nat)} (h : MapAt w kv vv m) (k v : Nat) (hk : k < 18446744073709551616) (hv : v < 18446744073709551616) (ha : f0r k = 0) (hn : k ∉ m.map Prod.fst) (hl : m.length < 256) :
  Calls Tryz.prog 81 #[.agg #[kv, vv], .int .u64 (k : Nat), .int .u64 (v : Nat)] w fun e w' => ∃ kv' vv', e = .returned (.tuple #[.agg #[kv', vv'], .int .i64 0]) ∧ MapAt w' kv' vv' (if v = 0 then m else memI k v m) ∧ (∀ N, N ≤ w.heap.size → Fr N kv → Fr N vv → Fr N kv' ∧ Fr N vv') ∧ Below w.heap.size w w' := by
 have HB1 := h_ (show Below w.heap.size w ((w.alloc (.cells #[kv, vv] 59)).alloc (.cells #[.slice none 0 0, .slice none 0 0] 59)) from bl_ (bl_ (Below.refl _ _) _) _)
 have HM := h_ (show Blk ((w.alloc (.cells #[kv, vv] 59)).alloc (.cells #[.slice none 0 0, .slice none 0 0] 59)) 59 w.heap.size [kv, vv] from (Blk.new w _ _).alloc _)
 have HR := h_ (show Blk ((w.alloc (.cells #[kv, vv] 59)).alloc (.cells #[.slice none 0 0, .slice none 0 0] 59)) 59 (w.heap.size + 1) [.slice none 0 0, .slice none 0 0] from by simpa using Blk.new (w.alloc (.cells #[kv, vv] 59)) 59 [.slice none 0 0, .slice none 0 0])
 have HH := h_ (h.below HB1.out)
 have HC := h_ (fun w => p0y k w hk)
 rw [ha] at HC
 have H0 := h_ h
 obtain ⟨p, c, e1, -⟩ := h.keys
 obtain ⟨q, d, e2, -⟩ := h.vals
 subst e1 e2
 clear h ha
 generalize (m.map Prod.fst).length = N1 at *
 generalize (m.map Prod.snd).length = N2 at *
 by_cases h0 : v = 0
 ·subst h0
  rw [if_pos rfl]
  have HWO := h_ (fun (w' : World) (h : MapAt w' (.slice p N1 c) (.slice q N2 d) m) => u0o w' h k hk hn)
  clear hn
  go_enter Tryz.func81, Tryz.ntmps81
  have m0 := HM.out.cell 0
  have m1 := HM.out.cell 1
  have ml := HM.out.lt
  simp only [gz_, gs_] at m0 m1
  go_wp2_with (first | (go_at_call 71; refine (HC.out _).mono ?_; rintro e w' ⟨rfl, j, rfl⟩))
  refine (HWO.out _ ((HH.out.below (bd_ (Below.refl _ _) j)))).mono ?_
  rintro e w2 ⟨rfl, hb⟩
  have hb2 := bt_ (bd_ (Below.refl _ _) j) hb
  have HB2 := h_ (bt_ HB1.out hb2)
  have HR2 := h_ (HR.out.below hb2)
  have HH2 := h_ (HH.out.below hb2)
  clear hb hb2 HC HWO HB1 HM HR HH m0 m1 ml
  have r0 := HR2.out.cell 0
  have r1 := HR2.out.cell 1
  have rf0 := HR2.out.free 0
  have rf1 := HR2.out.free 1
  have rl := HR2.out.lt
  simp only [gz_, gs_] at r0 r1
  have HFN := h_ (Blk.set (HR2.out.set 0 (.slice p N1 c)) 1 (.slice q N2 d))
  have HLT := h_ HR2.out.lt
  clear HR2
  go_wp2_with fail
  refine bodyPost_ret (a0z rfl _ _ (w.heap.size + 1) 59 #[.slice p N1 c, .slice q N2 d] (0, 0) _ rfl HFN.out Tryz.underlying59 rfl (by kernel_rfl)) rfl ⟨_, _, rfl, ?_, ?_, ?_⟩
  ·exact H0.out.below ((HB2.out.setCell (Nat.le_succ _) _).setCell (Nat.le_succ _) _)
  ·exact fun N _ h1 h2 => ⟨h1, h2⟩
  ·exact (HB2.out.setCell (Nat.le_succ _) _).setCell (Nat.le_succ _) _
 ·rw [if_neg h0]
  have h0' : ((v : Int) == 0) = false := beq_eq_false_iff_ne.2 (by omega)
  have HWI := h_ (fun (w' : World) (h : MapAt w' (.slice p N1 c) (.slice q N2 d) m) => f1i w' h k v hk hv hn (by omega))
  obtain ⟨L, hL⟩ : ∃ L : Nat, L = (memI k v m).length := ⟨_, rfl⟩
  have hL2 : (L : Int) ≤ 256 := by rw [hL, k0m]; omega
  clear hn h0
  go_enter Tryz.func81, Tryz.ntmps81
  have m0 := HM.out.cell 0
  have m1 := HM.out.cell 1
  have ml := HM.out.lt
  simp only [gz_, gs_] at m0 m1
  go_wp2_with (first | (go_at_call 71; refine (HC.out _).mono ?_; rintro e w' ⟨rfl, j, rfl⟩))
  refine (HWI.out _ ((HH.out.below (bd_ (Below.refl _ _) j)))).mono ?_
  rintro e w2 ⟨kv2, vv2, rfl, hm, hf1, hf2, hb⟩
  obtain ⟨p2, c2, e1, -⟩ := hm.keys
  obtain ⟨q2, d2, e2, -⟩ := hm.vals
  subst e1 e2
  generalize ((memI k v m).map Prod.fst).length = N3 at *
  generalize ((memI k v m).map Prod.snd).length = N4 at *
  have hb2 := bt_ (bd_ (Below.refl _ _) j) hb
  have HB2 := h_ (bt_ HB1.out hb2)
  have HR2 := h_ ((HR.out.below hb2).alloc (.cells #[.slice p2 N3 c2, .slice q2 N4 d2] 57))
  have HH2 := h_ hm
  have HLE := h_ (fun (w' : World) (h : MapAt w' (.slice p2 N3 c2) (.slice q2 N4 d2) (memI k v m)) => k1w w' h)
  rw [← hL] at HLE
  have HF1 := h_ (show Fr (w.heap.size + 2) (.slice p2 N3 c2) from fun p n c e => by have := hf1 p n c e; simpa using this)
  have HF2 := h_ (show Fr (w.heap.size + 2) (.slice q2 N4 d2) from fun p n c e => by have := hf2 p n c e; simpa using this)
  have HO := h_ (Blk.new w2 57 [.slice p2 N3 c2, .slice q2 N4 d2])
  clear hm hb hb2 hf1 hf2 hL HC HWI HB1 HM HR HH m0 m1 ml
  go_wp2_with fail
  refine (HLE.out _ (HH2.out.below (bl_ (Below.refl _ _) _))).mono ?_
  rintro e w3 ⟨rfl, hb⟩
  have hb2 := bt_ (bl_ (Below.refl w2.heap.size w2) (.cells #[.slice p2 N3 c2, .slice q2 N4 d2] 57)) hb
  have HB3 := h_ (bt_ HB2.out hb2)
  have HH3 := h_ (HH2.out.below hb2)
  have HR3 := h_ (HR2.out.below hb)
  have HO3 := h_ (HO.out.below hb)
  clear hb hb2 HLE HB2 HH2 HR2 HO
  have r0 := HR3.out.cell 0
  have r1 := HR3.out.cell 1
  have rf0 := HR3.out.free 0
  have rf1 := HR3.out.free 1
  have rl := HR3.out.lt
  simp only [gz_, gs_] at r0 r1
  have o0 := HO3.out.cell 0
  have o1 := HO3.out.cell 1
  have ol := HO3.out.lt
  simp only [gz_, gs_] at o0 o1
  have HFN := h_ (Blk.set (HR3.out.set 0 (.slice p2 N3 c2)) 1 (.slice q2 N4 d2))
  go_wp2_with fail
  refine bodyPost_ret (a0z rfl _ _ (w.heap.size + 1) 59 #[.slice p2 N3 c2, .slice q2 N4 d2] (0, 0) _ rfl HFN.out Tryz.underlying59 rfl (by kernel_rfl)) rfl ⟨_, _, rfl, ?_, ?_, ?_⟩
  ·exact (HH3.out.set HF1.out HF2.out (Nat.lt_succ_self _) _ _).set HF1.out HF2.out (Nat.lt_succ_self _) _ _
  ·exact fun N hN _ _ => ⟨fun p n c e => Nat.le_trans (by omega) (HF1.out p n c e), fun p n c e => Nat.le_trans (by omega) (HF2.out p n c e)⟩
  ·exact (HB3.out.setCell (Nat.le_succ _) _).setCell (Nat.le_succ _) _
structure OfI (w w1 wr : World) (l : List (Nat × Nat)) (k : Nat) (kv vv : Value) : Prop where
 blk : Blk wr 59 (w.heap.size + 1) [kv, vv]
 map : MapAt wr kv vv (memF [] (l.take k))
 fk : Fr (w.heap.size + 2) kv
 fv : Fr (w.heap.size + 2) vv
 low : Below (w.heap.size + 1) w1 wr
theorem of_any (w : World) {v : Value} {l : List (Nat × Nat)} (hR : RdV w 2 v l.length (cellL l)) (hlt : ∀ p ∈ l, p.1 < 18446744073709551616 ∧ p.2 < 18446744073709551616) (ha : ∀ p ∈ l, f0r p.1 = 0) (hd : (l.map Prod.fst).Nodup) (hl : l.length ≤ 256) :
  Calls Tryz.prog 51 #[v] w fun e w' => ∃ kv vv, e = .returned (.tuple #[.agg #[kv, vv], .int .i64 0]) ∧ MapAt w' kv vv (memF [] l) ∧ Fr w.heap.size kv ∧ Fr w.heap.size vv ∧ Below w.heap.size w w' := by
 obtain ⟨p, c, rfl, R, hc⟩ := hR
 have HW := h_ (fun (wr : World) (k : Nat) (hk : k < l.length) (kv vv : Value) (h : MapAt wr kv vv (memF [] (l.take k))) => show Calls Tryz.prog 81 #[.agg #[kv, vv], .int .u64 (((l.map Prod.fst).getD k 0 : Nat) : Int), .int .u64 (((l.map Prod.snd).getD k 0 : Nat) : Int)] wr (fun e w' => ∃ kv' vv', e = .returned (.tuple #[.agg #[kv', vv'], .int .i64 0]) ∧ MapAt w' kv' vv' (memF [] (l.take (k + 1))) ∧ (∀ N, N ≤ wr.heap.size → Fr N kv → Fr N vv → Fr N kv' ∧ Fr N vv') ∧ Below wr.heap.size wr w') from by
  have e1 : (l.map Prod.fst).getD k 0 = l[k].1 := by simp [List.getD, List.getElem?_eq_getElem hk]
  have e2 : (l.map Prod.snd).getD k 0 = l[k].2 := by simp [List.getD, List.getElem?_eq_getElem hk]
  have hm := o0x hd k (Nat.le_of_lt hk)
  rw [e1, e2, l0m hk, l0v]
  exact b1f wr h _ _ (hlt _ (List.getElem_mem hk)).1 (hlt _ (List.getElem_mem hk)).2 (ha _ (List.getElem_mem hk)) (fun hx => by
   obtain ⟨q, hq, e⟩ := List.mem_map.1 hx
   exact m0o hd hk (List.mem_map.2 ⟨q, ((hm.mem q).1 hq).1, e⟩)) (by have := hm.len; rw [List.length_take] at this; omega))
 have H0 := h_ (show OfI w ((w.alloc (.cells #[.slice none 0 0, .slice none 0 0] 59)).alloc (.cells #[.slice none 0 0, .slice none 0 0] 59)) ((w.alloc (.cells #[.slice none 0 0, .slice none 0 0] 59)).alloc (.cells #[.slice none 0 0, .slice none 0 0] 59)) l 0 (.slice none 0 0) (.slice none 0 0) from ⟨by simpa using Blk.new (w.alloc (.cells #[.slice none 0 0, .slice none 0 0] 59)) 59 [.slice none 0 0, .slice none 0 0], MapAt.nil _, Fr.nil _, Fr.nil _, Below.refl _ _⟩)
 have HR0 := h_ (show Blk ((w.alloc (.cells #[.slice none 0 0, .slice none 0 0] 59)).alloc (.cells #[.slice none 0 0, .slice none 0 0] 59)) 59 w.heap.size [.slice none 0 0, .slice none 0 0] from (Blk.new w 59 [.slice none 0 0, .slice none 0 0]).alloc _)
 have HB0 := h_ (show Below w.heap.size w ((w.alloc (.cells #[.slice none 0 0, .slice none 0 0] 59)).alloc (.cells #[.slice none 0 0, .slice none 0 0] 59)) from bl_ (bl_ (Below.refl _ _) _) _)
 have HRD := h_ (fun (wr : World) (hb : Below w.heap.size w wr) (k : Nat) (hk : k < l.length) => g0z (R.below hb) hk)
 have hl0 : (l.length : Int) ≤ 256 := by omega
 clear R ha hd hlt
 go_enter Tryz.func51, Tryz.ntmps51
 go_wp2_with fail
 generalize ((w.alloc (.cells #[.slice none 0 0, .slice none 0 0] 59)).alloc (.cells #[.slice none 0 0, .slice none 0 0] 59)) = w1 at *
 go_loopw [11] (fun i wr => ∃ (k : Nat) (kv vv : Value), k ≤ l.length ∧ i = .int .i64 k ∧ OfI w w1 wr l k kv vv) (fun i _ => l.length - (intOf i).toNat)
 case atStart => exact ⟨0, _, _, Nat.zero_le _, rfl, H0.out⟩
 case round =>
  obtain ⟨k, kv, vv, hk, rfl, HI⟩ := hrel
  have HBW := h_ (HB0.out.trans (HI.low.mono (Nat.le_succ _)))
  have hb0 := HI.blk.lt
  by_cases hkl : k < l.length
  ·have hkn : (k : Int) < l.length := by omega
   obtain ⟨g, off, rfl, c0, c1⟩ := HRD.out wr HBW.out k hkl
   obtain ⟨p1, k1, e1, -⟩ := HI.map.keys
   obtain ⟨p2, k2, e2, -⟩ := HI.map.vals
   generalize (List.map Prod.fst (memF [] (List.take k l))).length = N1 at e1
   generalize (List.map Prod.snd (memF [] (List.take k l))).length = N2 at e2
   subst e1 e2
   obtain ⟨a, hA⟩ : ∃ a : Int, a = (((l.map Prod.fst).getD k 0 : Nat) : Int) := ⟨_, rfl⟩
   obtain ⟨b, hB⟩ : ∃ b : Int, b = (((l.map Prod.snd).getD k 0 : Nat) : Int) := ⟨_, rfl⟩
   rw [← hA] at c0
   rw [← hB] at c1
   have HCL := h_ (fun (w2 : World) (h : MapAt w2 (.slice p1 N1 k1) (.slice p2 N2 k2) (memF [] (List.take k l))) => HW.out w2 k hkl _ _ h)
   rw [← hA, ← hB] at HCL
   clear hA hB
   have hm0 := HI.blk.cell 0
   have hm1 := HI.blk.cell 1
   simp only [gz_, gs_] at hm0 hm1
   have HI := h_ HI
   go_wp2_with fail
   refine (HCL.out _ (HI.out.map.below (bl_ (Below.refl _ _) _))).mono ?_
   rintro e w3 ⟨kv2, vv2, rfl, hm, hf, hb⟩
   have hz : w.heap.size + 2 ≤ wr.heap.size := hb0
   obtain ⟨hf1, hf2⟩ := hf (w.heap.size + 2) (by simp; omega) HI.out.fk HI.out.fv
   obtain ⟨p3, k3, e1, -⟩ := hm.keys
   obtain ⟨p4, k4, e2, -⟩ := hm.vals
   generalize (List.map Prod.fst (memF [] (List.take (k + 1) l))).length = N3 at e1
   generalize (List.map Prod.snd (memF [] (List.take (k + 1) l))).length = N4 at e2
   subst e1 e2
   have hb2 := bt_ (bl_ (Below.refl wr.heap.size wr) (.cells #[.int .u64 a, .int .u64 b] 79)) hb
   have HK := h_ ((HI.out.blk.below hb2).alloc (.cells #[.slice p3 N3 k3, .slice p4 N4 k4] 59))
   have HN := h_ (Blk.new w3 59 [.slice p3 N3 k3, .slice p4 N4 k4])
   have HL := h_ ((HI.out.low.trans (hb2.mono (Nat.le_of_succ_le hz))).alloc (by have := hb2.size; omega) (.cells #[.slice p3 N3 k3, .slice p4 N4 k4] 59))
   have HM := h_ (hm.below (bl_ (Below.refl _ _) (.cells #[.slice p3 N3 k3, .slice p4 N4 k4] 59)))
   have HS3 := h_ (show w.heap.size + 2 ≤ w3.heap.size by have := hb2.size; omega)
   have HF1 := h_ hf1
   have HF2 := h_ hf2
   clear hb hb2 hm hf hf1 hf2 HCL HI hm0 hm1 hb0 c0 c1 hz
   have m0 := HK.out.cell 0
   have m1 := HK.out.cell 1
   have mf0 := HK.out.free 0
   have mf1 := HK.out.free 1
   have ml := HK.out.lt
   simp only [gz_, gs_] at m0 m1
   have m3l := HS3.out
   go_wp2_with fail
   go_roundw
   case rel => exact ⟨k + 1, _, _, by omega, by go_num, by simpa using Blk.set (HK.out.set 0 (.slice p3 N3 k3)) 1 (.slice p4 N4 k4), (HM.out.set HF1.out HF2.out (Nat.lt_succ_self _) _ _).set HF1.out HF2.out (Nat.lt_succ_self _) _ _, HF1.out, HF2.out, (HL.out.setCell (Nat.le_refl _) _).setCell (Nat.le_refl _) _⟩
   case measure => simp [intOf] <;> omega
  ·obtain rfl : k = l.length := by omega
   obtain ⟨p1, k1, e1, -⟩ := HI.map.keys
   obtain ⟨p2, k2, e2, -⟩ := HI.map.vals
   generalize (List.map Prod.fst (memF [] (List.take l.length l))).length = N1 at e1
   generalize (List.map Prod.snd (memF [] (List.take l.length l))).length = N2 at e2
   subst e1 e2
   have HI := h_ HI
   have HB := h_ HBW.out
   have HK := h_ HI.out.blk
   have HZ := h_ (HR0.out.belowB HI.out.low (Nat.lt_succ_self _))
   have m0 := HK.out.cell 0
   have m1 := HK.out.cell 1
   have ml := HK.out.lt
   simp only [gz_, gs_] at m0 m1
   have r0 := HZ.out.cell 0
   have r1 := HZ.out.cell 1
   have rf0 := HZ.out.free 0
   have rf1 := HZ.out.free 1
   have rl := HZ.out.lt
   simp only [gz_, gs_] at r0 r1
   have HFN := h_ (Blk.set (HZ.out.set 0 (.slice p1 N1 k1)) 1 (.slice p2 N2 k2))
   go_wp2_with fail
   refine bodyPost_ret (a0z rfl _ _ w.heap.size 59 #[.slice p1 N1 k1, .slice p2 N2 k2] (0, 0) _ rfl HFN.out Tryz.underlying59 rfl (by kernel_rfl)) rfl ⟨_, _, rfl, ?_, fun p n c e => Nat.le_of_succ_le (Nat.le_of_succ_le (HI.out.fk p n c e)), fun p n c e => Nat.le_of_succ_le (Nat.le_of_succ_le (HI.out.fv p n c e)), ?_⟩
   ·have q := (HI.out.map.set HI.out.fk HI.out.fv (show w.heap.size < w.heap.size + 2 by omega) 0 (.slice p1 N1 k1)).set HI.out.fk HI.out.fv (show w.heap.size < w.heap.size + 2 by omega) 1 (.slice p2 N2 k2)
    rwa [List.take_length] at q
   ·exact (HB.out.setCell (Nat.le_refl _) _).setCell (Nat.le_refl _) _
theorem v0f (w : World) {nm : ByteArray} {fa : Bool} {vC vCo k0 k1 k2 k3 k4 k5 : Value} {l : List (Nat × Nat)} (hR : RdV w 2 vC l.length (cellL l)) (hlt : ∀ p ∈ l, p.1 < 18446744073709551616 ∧ p.2 < 18446744073709551616) (ha : ∀ p ∈ l, f0r p.1 = 0) (hd : (l.map Prod.fst).Nodup) (hl : l.length ≤ 256) :
  Calls Tryz.prog 19 #[.agg #[.string nm, vC, vCo, .bool fa, k0, k1, k2, k3, k4, k5]] w fun e w' => ∃ kv vv, e = .returned (.agg #[kv, vv]) ∧ MapAt w' kv vv (memF [] l) ∧ Below w.heap.size w w' := by
 have HB1 := h_ (show Below w.heap.size w ((w.alloc (.cells #[.string nm, vC, vCo, .bool fa, k0, k1, k2, k3, k4, k5] 31)).alloc (.cells #[.slice none 0 0, .slice none 0 0] 59)) from bl_ (bl_ (Below.refl _ _) _) _)
 have HM := h_ (show Blk ((w.alloc (.cells #[.string nm, vC, vCo, .bool fa, k0, k1, k2, k3, k4, k5] 31)).alloc (.cells #[.slice none 0 0, .slice none 0 0] 59)) 31 w.heap.size [.string nm, vC, vCo, .bool fa, k0, k1, k2, k3, k4, k5] from (Blk.new w _ _).alloc _)
 have HZ := h_ (show Blk ((w.alloc (.cells #[.string nm, vC, vCo, .bool fa, k0, k1, k2, k3, k4, k5] 31)).alloc (.cells #[.slice none 0 0, .slice none 0 0] 59)) 59 (w.heap.size + 1) [.slice none 0 0, .slice none 0 0] from by simpa using Blk.new (w.alloc (.cells #[.string nm, vC, vCo, .bool fa, k0, k1, k2, k3, k4, k5] 31)) 59 [.slice none 0 0, .slice none 0 0])
 have HO := h_ (of_any _ (hR.below HB1.out) hlt ha hd hl)
 obtain ⟨p, c, e0, -⟩ := hR
 subst e0
 clear hlt ha hd hl
 go_enter Tryz.func19, Tryz.ntmps19
 have m1 := HM.out.cell 1
 have ml := HM.out.lt
 simp only [gz_, gs_] at m1
 go_wp2_with fail
 refine (HO.out).mono ?_
 rintro e w2 ⟨kv, vv, rfl, hm, hf1, hf2, hb⟩
 obtain ⟨p1, c1, e1, -⟩ := hm.keys
 obtain ⟨p2, c2, e2, -⟩ := hm.vals
 generalize (List.map Prod.fst (memF [] l)).length = N1 at e1
 generalize (List.map Prod.snd (memF [] l)).length = N2 at e2
 subst e1 e2
 have HMM := h_ hm
 have HB2 := h_ (bt_ HB1.out hb)
 have HF1 := h_ (show Fr (w.heap.size + 2) (.slice p1 N1 c1) from fun p n c e => by have := hf1 p n c e; simpa using this)
 have HF2 := h_ (show Fr (w.heap.size + 2) (.slice p2 N2 c2) from fun p n c e => by have := hf2 p n c e; simpa using this)
 have HS := h_ (show w.heap.size + 1 < w2.heap.size from (HZ.out.below hb).lt)
 have HZ3 := h_ (HZ.out.below hb)
 have HFN := h_ ((Blk.set (HZ3.out.set 0 (.slice p1 N1 c1)) 1 (.slice p2 N2 c2)).alloc (.cells #[.slice p1 N1 c1, .slice p2 N2 c2] 59))
 clear hm hf1 hf2 hb HO HM HZ HB1 m1 ml
 have r0 := HZ3.out.cell 0
 have r1 := HZ3.out.cell 1
 have rf0 := HZ3.out.free 0
 have rf1 := HZ3.out.free 1
 have rl := HZ3.out.lt
 simp only [gz_, gs_] at r0 r1
 go_wp2_with fail
 refine bodyPost_ret (results_cell_row rfl _ _ (w.heap.size + 1) 59 #[.slice p1 N1 c1, .slice p2 N2 c2] (0, 0) _ rfl HFN.out Tryz.underlying59 rfl (by kernel_rfl)) rfl ⟨_, _, rfl, ?_, ?_⟩
 ·exact ((HMM.out.set HF1.out HF2.out (Nat.lt_succ_self _) 0 (.slice p1 N1 c1)).set HF1.out HF2.out (Nat.lt_succ_self _) 1 (.slice p2 N2 c2)).below (bl_ (Below.refl _ _) _)
 ·exact bl_ ((HB2.out.setCell (p := ⟨w.heap.size + 1, 0, none⟩) (Nat.le_succ _) _).setCell (p := ⟨w.heap.size + 1, 1, none⟩) (Nat.le_succ _) _) _
end
section
open Go.RowKit
theorem h1s {l : List Nat} {j : Nat} (h : j < l.length) : l.getD j 0 ∈ l := by
 have e : l.getD j 0 = l[j] := by simp [List.getD, List.getElem?_eq_getElem h]
 rw [e]; exact List.getElem_mem h
theorem c1s {a : Nat} : ∀ {l : List (Nat × Nat)} {j : Nat}, (l.map Prod.fst).Nodup → j < l.length → (l.map Prod.fst).getD j 0 = a → rd1 l a = (l.map Prod.snd).getD j 0 := by
 intro l j hd hj e
 have e1 : (l.map Prod.fst).getD j 0 = l[j].1 := by simp [List.getD, List.getElem?_eq_getElem hj]
 have e2 : (l.map Prod.snd).getD j 0 = l[j].2 := by simp [List.getD, List.getElem?_eq_getElem hj]
 rw [e2]
 exact x0b hd (by rw [← e, e1]; exact List.getElem_mem hj)
theorem g1j {a : Nat} {l : List (Nat × Nat)} (h : ∀ j, j < l.length → (l.map Prod.fst).getD j 0 ≠ a) : rd1 l a = 0 := by
 refine r0e (fun hm => ?_)
 obtain ⟨j, hj, e⟩ := List.getElem_of_mem hm
 rw [List.length_map] at hj
 exact h j hj (by rw [← e]; simp [List.getD, List.getElem?_eq_getElem hj])
theorem s0t (w : World) {p : Option Addr} {c : Nat} {l : List (Nat × Nat)} (hR : Rds w 2 p l.length (cellL l)) (hd : (l.map Prod.fst).Nodup) (hl : l.length ≤ 20000) (a : Nat) :
  Calls Tryz.prog 21 #[.slice p l.length c, .int .u64 (a : Nat)] w fun e w' => e = .returned (.int .u64 ((rd1 l a : Nat) : Int)) ∧ ∃ m, w' = w.drewN m := by
 have HC := h_ (fun (j : Nat) (hj : j < l.length) => g0z hR hj)
 have H1 := h_ (fun (j : Nat) (hj : j < l.length) (e : (l.map Prod.fst).getD j 0 = a) => c1s hd hj e)
 have H2 := h_ (fun (h : ∀ j, j < l.length → (l.map Prod.fst).getD j 0 ≠ a) => g1j h)
 clear hR hd
 go_enter Tryz.func21, Tryz.ntmps21
 go_wp2_with fail
 go_loopw [5] (fun i wr => ∃ k : Nat, k ≤ l.length ∧ i = .int .i64 ((k : Int) - 1) ∧ Hid (∀ j, k ≤ j → j < l.length → (l.map Prod.fst).getD j 0 ≠ a) ∧ ∃ m, wr = w.drewN m) (fun i _ => (intOf i + 1).toNat)
 case atStart => exact ⟨l.length, Nat.le_refl _, rfl, h_ (fun j h1 h2 => absurd h1 (by omega)), 0, rfl⟩
 case round =>
  obtain ⟨k, hk, rfl, HN, m, rfl⟩ := hrel
  cases k with
  | zero =>
   have HZ := h_ (H2.out (fun j hj => HN.out j (Nat.zero_le _) hj))
   go_wp2_with fail
   go_ret
   exact ⟨by rw [HZ.out]; rfl, m, rfl⟩
  | succ k =>
   have ek : ((k + 1 : Nat) : Int) - 1 = k := by omega
   rw [ek]
   obtain ⟨g, off, rfl, c0, c1⟩ := HC.out k (by omega)
   have hk0 : (0 : Int) ≤ k := by omega
   have hkn : (k : Int) < l.length := by omega
   obtain ⟨z, hz⟩ : ∃ z : Nat, z = (l.map Prod.fst).getD k 0 := ⟨_, rfl⟩
   obtain ⟨y, hy⟩ : ∃ y : Nat, y = (l.map Prod.snd).getD k 0 := ⟨_, rfl⟩
   rw [← hz] at c0
   rw [← hy] at c1
   by_cases hza : z = a
   ·have HT := h_ (show rd1 l a = y by rw [H1.out k (by omega) (by rw [← hz]; exact hza), hy])
    subst hza
    clear hz hy ek
    go_wp2_with fail
    go_ret
    exact ⟨by rw [HT.out]; rfl, m, rfl⟩
   ·have HN2 := h_ (show ∀ j, k ≤ j → j < l.length → (l.map Prod.fst).getD j 0 ≠ a from fun j h1 h2 => by
     rcases Nat.lt_or_ge k j with h | h
     ·exact HN.out j h h2
     ·rw [show j = k by omega, ← hz]; exact hza)
    have hza' : ((z : Int) == a) = false := beq_eq_false_iff_ne.2 (by omega)
    clear hz hy hza ek
    go_wp2_with fail
    go_roundw
    case rel => exact ⟨k, by omega, rfl, HN2, m, rfl⟩
    case measure => simp [intOf] <;> omega
theorem c1f (w : World) {p q : Option Addr} {c d : Nat} {l : List (Nat × Nat)} (hR : Rds w 2 p l.length (cellL l)) (hQ : Rds w 2 q l.length (cellL l)) (hl : l.length ≤ 20000) :
  Calls Tryz.prog 22 #[.slice p l.length c, .slice q l.length d] w fun e w' => e = .returned (.bool true) ∧ ∃ m, w' = w.drewN m := by
 have HC := h_ (fun (j : Nat) (hj : j < l.length) => g0z hR hj)
 have HD := h_ (fun (j : Nat) (hj : j < l.length) => g0z hQ hj)
 clear hR hQ
 go_enter Tryz.func22, Tryz.ntmps22
 go_wp2_with fail
 go_loopw [5] (fun i wr => ∃ k : Nat, k ≤ l.length ∧ i = .int .i64 k ∧ ∃ m, wr = w.drewN m) (fun i _ => l.length - (intOf i).toNat)
 case atStart => exact ⟨0, Nat.zero_le _, rfl, 0, rfl⟩
 case round =>
  obtain ⟨k, hk, rfl, m, rfl⟩ := hrel
  by_cases hkl : k < l.length
  ·have hkn : (k : Int) < l.length := by omega
   obtain ⟨g, off, rfl, c0, c1⟩ := HC.out k hkl
   obtain ⟨g2, off2, rfl, d0, d1⟩ := HD.out k hkl
   generalize (((l.map Prod.fst).getD k 0 : Nat) : Int) = z at *
   generalize (((l.map Prod.snd).getD k 0 : Nat) : Int) = y at *
   go_wp2_with fail
   go_quiet (fail)
   go_wp2_with fail
   go_roundw
   case rel => exact ⟨k + 1, by omega, by go_num, _, rfl⟩
   case measure => simp [intOf] <;> omega
  ·obtain rfl : k = l.length := by omega
   go_wp2_with fail
   go_ret
   exact ⟨rfl, m, rfl⟩
theorem i0b (a b : List (Nat × Nat)) : cellL (a ++ b) = cellL a ++ cellL b := by unfold cellL; rw [List.flatMap_append]
theorem m0e : ∀ l : List (Nat × Nat), (cellL l).length = l.length * 2
 | [] => rfl
 | p :: l => by
  have e : cellL (p :: l) = [u64V p.1, u64V p.2] ++ cellL l := rfl
  rw [e, List.length_append, m0e l]; simp; omega
theorem m0y (l : List (Nat × Nat)) (i : Nat) (h : i ≤ l.length) : (cellL l).take (i * 2) = cellL (l.take i) := by
 have e : cellL l = cellL (l.take i) ++ cellL (l.drop i) := by rw [← i0b, List.take_append_drop]
 rw [e, List.take_left' (by rw [m0e, List.length_take, Nat.min_eq_left h])]
theorem a1p (l : List (Nat × Nat)) (i : Nat) (h : i ≤ l.length) : (cellL l).drop (i * 2) = cellL (l.drop i) := by
 have e : cellL l = cellL (l.take i) ++ cellL (l.drop i) := by rw [← i0b, List.take_append_drop]
 rw [e, List.drop_left' (by rw [m0e, List.length_take, Nat.min_eq_left h])]
theorem h0g (l : List (Nat × Nat)) : ∀ u ∈ cellL l, u.oneCell' = true := fun u hu => by
 unfold cellL at hu
 obtain ⟨p, _, hp⟩ := List.mem_flatMap.1 hu
 simp at hp
 rcases hp with rfl | rfl <;> rfl
theorem r0h {w : World} {base : Nat} {e : TypeId} {size n c i : Nat} {p : Option Addr} {xs : List Value} (h : w.ownsRow base e size (.slice p n c) n xs) (hi : i ≤ n) : w.ownsRow base e size (.slice p i c) i (xs.take (i * size)) := by
 have hle : i * size ≤ n * size := Nat.mul_le_mul_right _ hi
 obtain ⟨hl, ⟨hv, h0⟩ | ⟨g, cap, cur, hv, hb, hg, hnc, hc, hsz, ht⟩⟩ := h
 ·cases hv
  obtain rfl : i = 0 := by omega
  exact ⟨by simp, .inl ⟨rfl, rfl⟩⟩
 ·cases hv
  refine ⟨by rw [List.length_take, hl, Nat.min_eq_left hle], .inr ⟨g, c, cur, rfl, hb, hg, by omega, hc, hsz, ?_⟩⟩
  rw [← ht, List.take_take, Nat.min_eq_left hle]
theorem m0w {w : World} {p : Option Addr} {l : List (Nat × Nat)} (h : Rds w 2 p l.length (cellL l)) {i c : Nat} (hi : i ≤ l.length) (hc : l.length ≤ c) : Rds w 2 (if c = i then p else Option.map (fun x => x.add (i * 2)) p) (l.length - i) (cellL (l.drop i)) := by
 refine ⟨by rw [m0e, List.length_drop], fun h0 => ?_⟩
 obtain ⟨g, off, rfl, hc2⟩ := h.2 (by omega)
 refine ⟨g, off + i * 2, by rw [if_neg (by omega)]; simp [addr_add], fun j hj => ?_⟩
 rw [Nat.add_assoc, hc2 (i * 2 + j) (by omega), ← a1p l i hi, List.getElem?_drop]
theorem o0u (w : World) (T : TypeId) (size : Nat) : (w.alloc (.cells #[] T)).ownsRow w.heap.size T size (.slice (some ⟨w.heap.size, 0, none⟩) 0 0) 0 [] := ⟨by simp, .inr ⟨_, 0, #[], rfl, Nat.le_refl _, heap_alloc_new w _, Nat.le_refl _, by unfold maxLen; omega, by simp, by simp⟩⟩
theorem a1q {p : Option Addr} {i c k : Nat} (h : p = none → c = 0) : (if c = i then p else Option.map (fun x => x.add k) p) = none → c - i = 0 := by
 intro e
 by_cases hc : c = i
 ·omega
 ·rw [if_neg hc] at e
  have := h (by simpa using e); omega
theorem g1n {w : World} {base : Nat} {e : TypeId} {size : Nat} {v : Value} {n : Nat} {xs : List Value} (h : w.ownsRow base e size v n xs) {k : Nat} (hk : v.ownBlock = some k) : base ≤ k := by
 rcases h.2 with ⟨rfl, _⟩ | ⟨g, cap, cur, rfl, hb, _⟩
 ·simp [Value.ownBlock] at hk
 ·simp [Value.ownBlock] at hk; omega
theorem g1m {w : World} {base : Nat} {e : TypeId} {size : Nat} {v : Value} {n : Nat} {xs : List Value} (h : w.ownsRow base e size v n xs) {k : Nat} (hk : v.ownBlock = some k) : k < w.heap.size := by
 rcases h.2 with ⟨rfl, _⟩ | ⟨g, cap, cur, rfl, hb, hg, _⟩
 ·simp [Value.ownBlock] at hk
 ·simp [Value.ownBlock] at hk; subst hk; exact (Array.getElem?_eq_some_iff.1 hg).1
theorem hRF {wr w4 w5 : World} {T : TypeId} {b size n m c : Nat} {p : Option Addr} {v : Value} {ys zs : List Value} {k : Nat} (hr : w4.ownsRow wr.heap.size T size v m ys) (ho : wr.ownsRow b T size (.slice p n c) n zs) (hs : wr.heap.size ≤ w4.heap.size) (hg : w4.grownBy w5 (Value.slice p k c).ownBlock) : w5.ownsRow wr.heap.size T size v m ys := by
 refine hr.kept hg ?_
 cases hv : v.ownBlock with
 | none => exact .inl rfl
 | some i =>
  right
  intro e
  have h1 := g1n hr hv
  cases p with
  | none => simp [Value.ownBlock] at e
  | some a =>
   have h2 := g1m ho (k := a.block) rfl
   simp [Value.ownBlock] at e
   omega
theorem m0z (a v : Nat) (m : List (Nat × Nat)) (i : Nat) (h : lbK a (m.map Prod.fst) = i) : cellL (memI a v m) = cellL (m.take i) ++ u64V a :: u64V v :: cellL (m.drop i) := by
 unfold memI; rw [h, i0b]
 simp [cellL]
end
section
open Go.RowKit
theorem r0r : El Tryz.prog 24 79 (.agg #[.int .u64 0, .int .u64 0]) 2 16 := ⟨Tryz.underlying24, by kernel_rfl⟩
theorem y0w (w : World) {p : Option Addr} {c : Nat} {l : List (Nat × Nat)} (hR : Rds w 2 p l.length (cellL l)) (hd : (l.map Prod.fst).Nodup) (hl : l.length ≤ 256) :
  Calls Tryz.prog 24 #[.slice p l.length c] w fun e w' => ∃ v, e = .returned v ∧ w'.ownsRow w.heap.size 79 2 v (memF [] l).length (cellL (memF [] l)) ∧ Below w.heap.size w w' := by
 have HC := h_ (fun (wr : World) (hb : Below w.heap.size w wr) (j : Nat) (hj : j < l.length) => g0z (hR.below hb) hj)
 have HRR := h_ (fun (wr : World) (hb : Below w.heap.size w wr) (k : Nat) (hk : k < l.length) => show Calls Tryz.prog 21 #[.slice p l.length c, .int .u64 (((l.map Prod.fst).getD k 0 : Nat) : Int)] wr (fun e w' => e = .returned (.int .u64 (((l.map Prod.snd).getD k 0 : Nat) : Int)) ∧ ∃ m, w' = wr.drewN m) from by
  have q := s0t (c := c) wr (hR.below hb) hd (by omega) ((l.map Prod.fst).getD k 0)
  rwa [c1s hd hk rfl] at q)
 have HMF := h_ (fun (k : Nat) (hk : k ≤ l.length) => o0x hd k hk)
 have HNX := h_ (fun (k : Nat) (hk : k < l.length) => show memF [] (l.take (k + 1)) = (if (l.map Prod.snd).getD k 0 = 0 then memF [] (l.take k) else memI ((l.map Prod.fst).getD k 0) ((l.map Prod.snd).getD k 0) (memF [] (l.take k))) ∧ (l.map Prod.fst).getD k 0 ∉ (memF [] (l.take k)).map Prod.fst from by
  have e1 : (l.map Prod.fst).getD k 0 = l[k].1 := by simp [List.getD, List.getElem?_eq_getElem hk]
  have e2 : (l.map Prod.snd).getD k 0 = l[k].2 := by simp [List.getD, List.getElem?_eq_getElem hk]
  rw [e1, e2, l0m hk, l0v]
  refine ⟨rfl, fun hx => ?_⟩
  obtain ⟨q, hq, e⟩ := List.mem_map.1 hx
  exact m0o hd hk (List.mem_map.2 ⟨q, (((o0x hd k (Nat.le_of_lt hk)).mem q).1 hq).1, e⟩))
 have hl0 : (l.length : Int) ≤ 256 := by omega
 clear hR hd
 go_enter Tryz.func24, Tryz.ntmps24
 go_wp2_with fail
 go_loopw [3, 4] (fun o i wr => ∃ (k : Nat) (v : Value), k ≤ l.length ∧ i = .int .i64 k ∧ o = v ∧ wr.ownsRow w.heap.size 79 2 v (memF [] (l.take k)).length (cellL (memF [] (l.take k))) ∧ Below w.heap.size w wr) (fun _ i _ => l.length - (intOf i).toNat)
 case atStart => exact ⟨0, _, Nat.zero_le _, rfl, rfl, World.ownsRow_nil _ _ _ _, Below.refl _ _⟩
 case round =>
  obtain ⟨k, o, hk, rfl, rfl, ho, hb⟩ := hrel
  obtain ⟨p2, c2, rfl, hpc⟩ := a0i ho
  have HO := h_ ho
  have HB := h_ hb
  obtain ⟨p3, c3, e3, R2, hc3⟩ := Rds.of_own ho
  obtain ⟨rfl, -, rfl⟩ : p2 = p3 ∧ True ∧ c2 = c3 := by injection e3 with h1 h2 h3; exact ⟨h1, trivial, h3⟩
  clear e3
  by_cases hkl : k < l.length
  ·have hkn : (k : Int) < l.length := by omega
   have HM := h_ (HMF.out k hk)
   have HN := h_ (HNX.out k hkl)
   have HRK := h_ (HRR.out wr hb k hkl)
   obtain ⟨g, off, rfl, c0, -⟩ := HC.out wr hb k hkl
   have HML := h_ (show (memF [] (l.take k)).length ≤ 256 by have := HM.out.len; rw [List.length_take] at this; omega)
   have HRI := h_ HM.out.ris
   generalize hmm : memF [] (l.take (k + 1)) = m' at HN
   have HMM := h_ hmm
   clear hmm
   clear ho hb HM
   generalize memF [] (l.take k) = m at *
   generalize (l.map Prod.fst).getD k 0 = z at *
   generalize (l.map Prod.snd).getD k 0 = y at *
   have HL := h_ (z0p z (m.map Prod.fst))
   have HLT := h_ (d1z z (m.map Prod.fst))
   have HGE := h_ (e1a z (m.map Prod.fst) HRI.out)
   have HR2 := h_ R2
   clear R2
   go_wp2_with fail
   refine (HRK.out).mono ?_
   rintro e w3 ⟨rfl, j0, rfl⟩
   go_wp2_with fail
   generalize hi : lbK z (m.map Prod.fst) = i at *
   have HI := h_ hi
   clear hi
   go_loopw [7] (fun nn wx => ∃ j : Nat, j ≤ i ∧ nn = .int .i64 j ∧ ∃ q, wx = wr.drewN q) (fun nn _ => i - (intOf nn).toNat)
   case atStart => exact ⟨0, Nat.zero_le _, rfl, _, rfl⟩
   case round =>
    obtain ⟨j, hj, rfl, q, rfl⟩ := hrel
    have hML : (m.map Prod.fst).length = m.length := by simp
    have hmb : (m.length : Int) ≤ 256 := by have := HML.out; omega
    have hjm : j ≤ m.length := by have := HL.out; omega
    by_cases hjl : j < m.length
    ·have hjn : (j : Int) < m.length := by omega
     obtain ⟨g2, off2, rfl, d0, -⟩ := g0z HR2.out hjl
     have HJ := h_ (HLT.out j)
     have HG := h_ (HGE.out j)
     have HNE := h_ (show ¬ (m.map Prod.fst).getD j 0 = z from fun e => HN.out.2 (by rw [← e]; exact h1s (by omega)))
     generalize (m.map Prod.fst).getD j 0 = x at *
     by_cases hx : x < z
     ·have hx' : (x : Int) < z := by omega
      have HJ2 := h_ (show j + 1 ≤ i from by
       rcases Nat.lt_or_ge j i with h | h
       ·exact h
       ·have := HG.out h (by omega); omega)
      go_wp2_with fail
      go_roundw
      case rel => exact ⟨j + 1, HJ2.out, by go_num, _, rfl⟩
      case measure => have := HJ2.out; simp [intOf] <;> omega
     ·have hx' : (z : Int) ≤ x := by omega
      have hji : j = i := by
       rcases Nat.lt_or_ge j i with h | h
       ·exact absurd (HJ.out h) hx
       ·omega
      have hxz : ((x : Int) == z) = false := beq_eq_false_iff_ne.2 (by have := HNE.out; omega)
      subst hji
      by_cases hy : y = 0
      ·have HQ := h_ (show m' = m by rw [HN.out.1, if_pos hy])
       subst hy
       go_wp2_with fail
       go_roundw
       case rel => exact ⟨k + 1, _, by omega, by go_num, rfl, by rw [HMM.out, HQ.out]; exact HO.out, by repeat (first | exact HB.out | refine bd_ ?_ _)⟩
       case measure => simp [intOf] <;> omega
      ·have hy' : ((y : Int) == 0) = false := beq_eq_false_iff_ne.2 (by omega)
       have HQ := h_ (show m' = memI z y m by rw [HN.out.1, if_neg hy])
       clear hy
       have HBA := h_ (show Below wr.heap.size wr ((wr.drewN q).alloc (.cells #[] 79)) from bl_ (bd_ (Below.refl _ _) q) _)
       have HE := h_ (o0u (wr.drewN q) 79 2)
       have HT := h_ (show Rds ((wr.drewN q).alloc (.cells #[] 79)) 2 (some ⟨g2, off2 + j * 2, none⟩) (m.length - j) (cellL (m.drop j)) from by
        have q := m0w (HR2.out.below HBA.out) hjm (c := c2) hc3
        rw [if_neg (by omega)] at q
        simpa [addr_add] using q)
       have HPN := h_ (show some (⟨g2, off2 + j * 2, none⟩ : Addr) = none → c2 - j = 0 from fun h => by cases h)
       have HK1 := h_ (show 0 + (m.length - j) ≤ maxLen by have := HML.out; unfold maxLen; omega)
       have HK2 := h_ (show (0 + (m.length - j)) * 16 ≤ 140737488355328 by have := HML.out; omega)
       have HK3 := h_ (show (wr.drewN q).heap.size ≤ ((wr.drewN q).alloc (.cells #[] 79)).heap.size by simp)
       go_wp2_with (at_builtin; refine appO rfl _ _ 24 rfl (wr.drewN q).heap.size 79 _ 2 16 r0r rfl (by decide) _ 0 [] rfl HE.out _ (m.length - j) (c2 - j) _ rfl HT.out HPN.out (h0g _) HK1.out HK2.out HK3.out ?_)
       intro v' w4 hr hg4 hb4 hl4
       have HRO := h_ hr
       obtain ⟨pr, cr, hv', hprn⟩ := a0i hr
       subst hv'
       have HB4 := h_ (HBA.out.trans hb4)
       have HO4 := h_ (r0h (own_below HO.out HB4.out) hjm)
       rw [m0y m j hjm] at HO4
       have HK1 := h_ (show j + 1 ≤ maxLen by have := HML.out; unfold maxLen; omega)
       have HK2 := h_ (show (j + 1) * 16 ≤ 140737488355328 by have := HML.out; omega)
       have HK3 := h_ (show w.heap.size ≤ w4.heap.size from Nat.le_trans HB.out.size HB4.out.size)
       clear hr hg4 hb4 hl4 HE HT HPN HBA
       go_wp2_with (at_builtin; refine s0b rfl _ _ 24 rfl w.heap.size 79 _ 2 16 r0r rfl (by decide) _ _ _ rfl HO4.out [u64V z, u64V y] rfl _ rfl (by simp) (by simp [Value.oneCell', u64V]) HK1.out HK2.out HK3.out ?_)
       intro v5 w5 ho5 hg5 hb5 hk5
       have HRF := h_ (hRF HRO.out HO.out (HB4.out.size) hg5)
       obtain ⟨p5, c5, hv5, -⟩ := a0i ho5
       subst hv5
       obtain ⟨pq, cq, e7, HRQ, -⟩ := Rds.of_own HRF.out
       obtain ⟨rfl, rfl⟩ : pr = pq ∧ cr = cq := by injection e7 with h1 h2 h3; exact ⟨h1, h3⟩
       have HO5 := h_ ho5
       have HB5 := h_ ((HB.out.trans (HB4.out.mono HB.out.size)).trans hb5)
       have HRQ := h_ HRQ
       have HK1 := h_ (show (j + 1) + (m.length - j) ≤ maxLen by have := HML.out; unfold maxLen; omega)
       have HK2 := h_ (show ((j + 1) + (m.length - j)) * 16 ≤ 140737488355328 by have := HML.out; omega)
       have HK3 := h_ HB5.out.size
       have HPQ := h_ hprn
       clear ho5 hg5 hb5 hk5 e7 HRO HO4 hprn
       go_wp2_with (at_builtin; refine appO rfl _ _ 24 rfl w.heap.size 79 _ 2 16 r0r rfl (by decide) _ _ _ rfl HO5.out _ _ _ _ rfl HRQ.out HPQ.out (h0g _) HK1.out HK2.out HK3.out ?_)
       intro v6 w6 ho6 hg6 hb6 hl6
       have HO6 := h_ ho6
       have HB6 := h_ (HB5.out.trans hb6)
       have HCE := h_ (m0z z y m j HI.out)
       clear ho6 hg6 hb6 hl6
       go_wp2_with fail
       go_roundw
       case rel => exact ⟨k + 1, _, by omega, by go_num, rfl, by rw [HMM.out, HQ.out, k0m, HCE.out]; rw [show m.length + 1 = ((j + 1) + (m.length - j)) by omega]; exact HO6.out, HB6.out⟩
       case measure => simp [intOf] <;> omega
    ·have hji : j = i := by have := HL.out; omega
     subst hji
     have hjn : (m.length : Int) ≤ j := by omega
     by_cases hcj : c2 = j
     ·have hcj2 := hcj.symm
      clear hcj
      subst hcj2
      by_cases hy : y = 0
      ·have HQ := h_ (show m' = m by rw [HN.out.1, if_pos hy])
       subst hy
       go_wp2_with fail
       go_roundw
       case rel => exact ⟨k + 1, _, by omega, by go_num, rfl, by rw [HMM.out, HQ.out]; exact HO.out, by repeat (first | exact HB.out | refine bd_ ?_ _)⟩
       case measure => simp [intOf] <;> omega
      ·have hy' : ((y : Int) == 0) = false := beq_eq_false_iff_ne.2 (by omega)
       have HQ := h_ (show m' = memI z y m by rw [HN.out.1, if_neg hy])
       clear hy
       have HBA := h_ (show Below wr.heap.size wr ((wr.drewN q).alloc (.cells #[] 79)) from bl_ (bd_ (Below.refl _ _) q) _)
       have HE := h_ (o0u (wr.drewN q) 79 2)
       have HT := h_ (m0w (HR2.out.below HBA.out) hjm (c := j) hc3)
       rw [if_pos rfl, show m.length - j = 0 by omega] at HT
       have HPN := h_ (show p2 = none → 0 = 0 from fun _ => rfl)
       have HK1 := h_ (show 0 + 0 ≤ maxLen by have := HML.out; unfold maxLen; omega)
       have HK2 := h_ (show (0 + 0) * 16 ≤ 140737488355328 by have := HML.out; omega)
       have HK3 := h_ (show (wr.drewN q).heap.size ≤ ((wr.drewN q).alloc (.cells #[] 79)).heap.size by simp)
       go_wp2_with (at_builtin; refine appO rfl _ _ 24 rfl (wr.drewN q).heap.size 79 _ 2 16 r0r rfl (by decide) _ 0 [] rfl HE.out _ 0 (0) _ rfl HT.out HPN.out (h0g _) HK1.out HK2.out HK3.out ?_)
       intro v' w4 hr hg4 hb4 hl4
       have HRO := h_ hr
       obtain ⟨pr, cr, hv', hprn⟩ := a0i hr
       subst hv'
       have HB4 := h_ (HBA.out.trans hb4)
       have HO4 := h_ (r0h (own_below HO.out HB4.out) hjm)
       rw [m0y m j hjm] at HO4
       have HK1 := h_ (show j + 1 ≤ maxLen by have := HML.out; unfold maxLen; omega)
       have HK2 := h_ (show (j + 1) * 16 ≤ 140737488355328 by have := HML.out; omega)
       have HK3 := h_ (show w.heap.size ≤ w4.heap.size from Nat.le_trans HB.out.size HB4.out.size)
       clear hr hg4 hb4 hl4 HE HT HPN HBA
       go_wp2_with (at_builtin; refine s0b rfl _ _ 24 rfl w.heap.size 79 _ 2 16 r0r rfl (by decide) _ _ _ rfl HO4.out [u64V z, u64V y] rfl _ rfl (by simp) (by simp [Value.oneCell', u64V]) HK1.out HK2.out HK3.out ?_)
       intro v5 w5 ho5 hg5 hb5 hk5
       have HRF := h_ (hRF HRO.out HO.out (HB4.out.size) hg5)
       obtain ⟨p5, c5, hv5, -⟩ := a0i ho5
       subst hv5
       obtain ⟨pq, cq, e7, HRQ, -⟩ := Rds.of_own HRF.out
       obtain ⟨rfl, rfl⟩ : pr = pq ∧ cr = cq := by injection e7 with h1 h2 h3; exact ⟨h1, h3⟩
       have HO5 := h_ ho5
       have HB5 := h_ ((HB.out.trans (HB4.out.mono HB.out.size)).trans hb5)
       have HRQ := h_ HRQ
       have HK1 := h_ (show (j + 1) + 0 ≤ maxLen by have := HML.out; unfold maxLen; omega)
       have HK2 := h_ (show ((j + 1) + 0) * 16 ≤ 140737488355328 by have := HML.out; omega)
       have HK3 := h_ HB5.out.size
       have HPQ := h_ hprn
       clear ho5 hg5 hb5 hk5 e7 HRO HO4 hprn
       go_wp2_with (at_builtin; refine appO rfl _ _ 24 rfl w.heap.size 79 _ 2 16 r0r rfl (by decide) _ _ _ rfl HO5.out _ _ _ _ rfl HRQ.out HPQ.out (h0g _) HK1.out HK2.out HK3.out ?_)
       intro v6 w6 ho6 hg6 hb6 hl6
       have HO6 := h_ ho6
       have HB6 := h_ (HB5.out.trans hb6)
       have HCE := h_ (m0z z y m j HI.out)
       clear ho6 hg6 hb6 hl6
       go_wp2_with fail
       go_roundw
       case rel => exact ⟨k + 1, _, by omega, by go_num, rfl, by rw [HMM.out, HQ.out, k0m, HCE.out]; rw [show m.length + 1 = (j + 1) by omega]; exact HO6.out, HB6.out⟩
       case measure => simp [intOf] <;> omega
     ·skip
      by_cases hy : y = 0
      ·have HQ := h_ (show m' = m by rw [HN.out.1, if_pos hy])
       subst hy
       go_wp2_with fail
       go_roundw
       case rel => exact ⟨k + 1, _, by omega, by go_num, rfl, by rw [HMM.out, HQ.out]; exact HO.out, by repeat (first | exact HB.out | refine bd_ ?_ _)⟩
       case measure => simp [intOf] <;> omega
      ·have hy' : ((y : Int) == 0) = false := beq_eq_false_iff_ne.2 (by omega)
       have HQ := h_ (show m' = memI z y m by rw [HN.out.1, if_neg hy])
       clear hy
       have HBA := h_ (show Below wr.heap.size wr ((wr.drewN q).alloc (.cells #[] 79)) from bl_ (bd_ (Below.refl _ _) q) _)
       have HE := h_ (o0u (wr.drewN q) 79 2)
       have HT := h_ (m0w (HR2.out.below HBA.out) hjm (c := c2) hc3)
       rw [if_neg hcj] at HT
       have HPN := h_ (a1q (i := j) (k := j * 2) hpc)
       rw [if_neg hcj] at HPN
       have HK1 := h_ (show 0 + (m.length - j) ≤ maxLen by have := HML.out; unfold maxLen; omega)
       have HK2 := h_ (show (0 + (m.length - j)) * 16 ≤ 140737488355328 by have := HML.out; omega)
       have HK3 := h_ (show (wr.drewN q).heap.size ≤ ((wr.drewN q).alloc (.cells #[] 79)).heap.size by simp)
       go_wp2_with (at_builtin; refine appO rfl _ _ 24 rfl (wr.drewN q).heap.size 79 _ 2 16 r0r rfl (by decide) _ 0 [] rfl HE.out _ (m.length - j) (c2 - j) _ rfl HT.out HPN.out (h0g _) HK1.out HK2.out HK3.out ?_)
       intro v' w4 hr hg4 hb4 hl4
       have HRO := h_ hr
       obtain ⟨pr, cr, hv', hprn⟩ := a0i hr
       subst hv'
       have HB4 := h_ (HBA.out.trans hb4)
       have HO4 := h_ (r0h (own_below HO.out HB4.out) hjm)
       rw [m0y m j hjm] at HO4
       have HK1 := h_ (show j + 1 ≤ maxLen by have := HML.out; unfold maxLen; omega)
       have HK2 := h_ (show (j + 1) * 16 ≤ 140737488355328 by have := HML.out; omega)
       have HK3 := h_ (show w.heap.size ≤ w4.heap.size from Nat.le_trans HB.out.size HB4.out.size)
       clear hr hg4 hb4 hl4 HE HT HPN HBA
       go_wp2_with (at_builtin; refine s0b rfl _ _ 24 rfl w.heap.size 79 _ 2 16 r0r rfl (by decide) _ _ _ rfl HO4.out [u64V z, u64V y] rfl _ rfl (by simp) (by simp [Value.oneCell', u64V]) HK1.out HK2.out HK3.out ?_)
       intro v5 w5 ho5 hg5 hb5 hk5
       have HRF := h_ (hRF HRO.out HO.out (HB4.out.size) hg5)
       obtain ⟨p5, c5, hv5, -⟩ := a0i ho5
       subst hv5
       obtain ⟨pq, cq, e7, HRQ, -⟩ := Rds.of_own HRF.out
       obtain ⟨rfl, rfl⟩ : pr = pq ∧ cr = cq := by injection e7 with h1 h2 h3; exact ⟨h1, h3⟩
       have HO5 := h_ ho5
       have HB5 := h_ ((HB.out.trans (HB4.out.mono HB.out.size)).trans hb5)
       have HRQ := h_ HRQ
       have HK1 := h_ (show (j + 1) + (m.length - j) ≤ maxLen by have := HML.out; unfold maxLen; omega)
       have HK2 := h_ (show ((j + 1) + (m.length - j)) * 16 ≤ 140737488355328 by have := HML.out; omega)
       have HK3 := h_ HB5.out.size
       have HPQ := h_ hprn
       clear ho5 hg5 hb5 hk5 e7 HRO HO4 hprn
       go_wp2_with (at_builtin; refine appO rfl _ _ 24 rfl w.heap.size 79 _ 2 16 r0r rfl (by decide) _ _ _ rfl HO5.out _ _ _ _ rfl HRQ.out HPQ.out (h0g _) HK1.out HK2.out HK3.out ?_)
       intro v6 w6 ho6 hg6 hb6 hl6
       have HO6 := h_ ho6
       have HB6 := h_ (HB5.out.trans hb6)
       have HCE := h_ (m0z z y m j HI.out)
       clear ho6 hg6 hb6 hl6
       go_wp2_with fail
       go_roundw
       case rel => exact ⟨k + 1, _, by omega, by go_num, rfl, by rw [HMM.out, HQ.out, k0m, HCE.out]; rw [show m.length + 1 = ((j + 1) + (m.length - j)) by omega]; exact HO6.out, HB6.out⟩
       case measure => simp [intOf] <;> omega
  ·obtain rfl : k = l.length := by omega
   go_wp2_with fail
   go_ret
   exact ⟨_, rfl, by rw [show memF [] l = memF [] (l.take l.length) by rw [List.take_length]]; exact HO.out, HB.out⟩
end
end Go.Proofs.YtmnojnopejhebaaGreat
