/- A kind by its name. -/
import Derived.Test.YtmnojnopejhebaaGreatMgag
import Derived.Test.YtmnojnopejhebaaGreatMgan
namespace Go.Proofs.YtmnojnopejhebaaGreat
set_option linter.unusedVariables false
set_option linter.unusedSimpArgs false
set_option maxRecDepth 100000
set_option maxHeartbeats 25600000
section
open Go.RowKit
theorem q0p (s : AS) (x : List UInt8) : 0 ≤ (e0h s x).1 ∧ (e0h s x).1 ≤ 1099511627776 := by
 unfold e0h; split
 ·rename_i h; simp only; omega
 ·simp
theorem l0a {r G : Nat} {s : AS} (w : World) (h : ARd w r G s) :
  Calls Tryz.prog 178 #[.pointer (some ⟨r, 0, none⟩)] w (g0m r G w intV (c0o s)) := by
 have HN := h_ (i0b w h)
 have hsz := q0q h
 have HM := h_ (show c0o s = e0h (badA (a0q s).2 (!(cutA [35] (a0q s).1).2)) (cutA [35] (a0q s).1).1 from rfl)
 generalize a0q s = y at *
 obtain ⟨x, s2⟩ := y
 obtain ⟨ws, bad⟩ := s2
 have HC := h_ (fun (w1 : World) => w0m x [35] w1)
 have hcl := s0e [35] x
 simp only at HM hsz
 generalize cutA [35] x = c at *
 obtain ⟨t, b⟩ := c
 simp only at HM hcl HC
 clear h
 go_enter Tryz.func178, Tryz.ntmps178
 go_wp2_with fail
 refine (HN.out).mono ?_
 rintro e w2 ⟨rfl, hr, hg⟩
 have HR := h_ hr
 have HG := h_ hg
 have hrl := hr.lt
 obtain ⟨p, cc, hB, _⟩ := hr
 have c0 := hB.cell 0
 have c1 := hB.cell 1
 have f0 := hB.free 0
 have f1 := hB.free 1
 simp only [gz_, gs_] at c0 c1
 clear hB
 clear hg HN
 go_wp2_with fail
 refine (HC.out _).mono ?_
 rintro e w3 ⟨rfl, rfl⟩
 have HB := h_ (HR.out.bad (!b))
 have HNU := h_ (fun w1 (hh : ARd w1 r G (badA (ws, bad) (!b))) => l0n w1 t (by omega) hh)
 cases bad <;> cases b
 all_goals
  go_wp2_with fail
  refine (HNU.out _ (by simpa [badA] using HB.out)).mono ?_
  rintro e w4 ⟨rfl, hr4, hg4⟩
  have HR4 := h_ hr4
  have HG4 := h_ (a0a (a0a HG.out (a0r _ _ _ _)) hg4)
  clear hr4 hg4
  go_wp2_with fail
  go_ret
  exact ⟨by rw [HM.out]; rfl, by rw [HM.out]; exact HR4.out, HG4.out⟩
theorem j0w {r G : Nat} {s : AS} (w : World) (h : ARd w r G s) :
  Calls Tryz.prog 164 #[.pointer (some ⟨r, 0, none⟩)] w (g0m r G w intV (b0f s)) := by
 have HN := h_ (i0b w h)
 have hsz := q0q h
 have HM := h_ (show b0f s = if (cutA [46, 43] (a0q s).1).2 then e0h (a0q s).2 (cutA [46, 43] (a0q s).1).1 else (-(e0h (badA (a0q s).2 (!(cutA [46, 45] (a0q s).1).2)) (cutA [46, 45] (a0q s).1).1).1, (e0h (badA (a0q s).2 (!(cutA [46, 45] (a0q s).1).2)) (cutA [46, 45] (a0q s).1).1).2) from rfl)
 generalize a0q s = y at *
 obtain ⟨x, s2⟩ := y
 obtain ⟨ws, bad⟩ := s2
 have HC := h_ (fun (w1 : World) => w0m x [46, 43] w1)
 have HC2 := h_ (fun (w1 : World) => w0m x [46, 45] w1)
 have hcl := s0e [46, 43] x
 have hcl2 := s0e [46, 45] x
 simp only at HM hsz
 generalize cutA [46, 43] x = c at *
 generalize cutA [46, 45] x = d at *
 obtain ⟨t, b⟩ := c
 obtain ⟨t2, b2⟩ := d
 simp only at HM hcl HC hcl2 HC2
 clear h
 go_enter Tryz.func164, Tryz.ntmps164
 go_wp2_with fail
 refine (HN.out).mono ?_
 rintro e w2 ⟨rfl, hr, hg⟩
 have HR := h_ hr
 have HG := h_ hg
 have hrl := hr.lt
 obtain ⟨p, cc, hB, _⟩ := hr
 have c0 := hB.cell 0
 have c1 := hB.cell 1
 have f0 := hB.free 0
 have f1 := hB.free 1
 simp only [gz_, gs_] at c0 c1
 clear hB
 clear hg HN
 go_wp2_with fail
 refine (HC.out _).mono ?_
 rintro e w3 ⟨rfl, rfl⟩
 cases b with
 | true =>
  have HNU := h_ (fun w1 (hh : ARd w1 r G (ws, bad)) => l0n w1 t (by omega) hh)
  have HM2 := h_ (show b0f s = e0h (ws, bad) t by rw [HM.out]; rfl)
  go_wp2_with fail
  refine (HNU.out _ HR.out).mono ?_
  rintro e w4 ⟨rfl, hr4, hg4⟩
  have HR4 := h_ hr4
  have HG4 := h_ (a0a HG.out hg4)
  clear hr4 hg4
  go_wp2_with fail
  go_ret
  exact ⟨by rw [HM2.out]; rfl, by rw [HM2.out]; exact HR4.out, HG4.out⟩
 | false =>
  have HB := h_ (HR.out.bad (!b2))
  have HNU := h_ (fun w1 (hh : ARd w1 r G (badA (ws, bad) (!b2))) => l0n w1 t2 (by omega) hh)
  have HM2 := h_ (show b0f s = (-(e0h (badA (ws, bad) (!b2)) t2).1, (e0h (badA (ws, bad) (!b2)) t2).2) by rw [HM.out]; rfl)
  obtain ⟨hb1, hb2⟩ := q0p (badA (ws, bad) (!b2)) t2
  generalize e0h (badA (ws, bad) (!b2)) t2 = v at *
  obtain ⟨v, s4⟩ := v
  simp only at hb1 hb2 HM2
  have hneg : IntKind.i64.wrap (-v) = -v := IntWalk.i64_in _ (by omega)
  cases bad <;> cases b2
  all_goals
   go_wp2_with fail
   refine (HC2.out _).mono ?_
   rintro e w5 ⟨rfl, rfl⟩
   go_wp2_with fail
   refine (HNU.out _ (by simpa [badA] using HB.out)).mono ?_
   rintro e w4 ⟨rfl, hr4, hg4⟩
   have HR4 := h_ hr4
   have HG4 := h_ (a0a (a0a HG.out (a0r _ _ _ _)) hg4)
   clear hr4 hg4
   simp only [intV]
   go_wp2_with fail
   go_ret
   exact ⟨by rw [HM2.out]; rfl, by rw [HM2.out]; exact HR4.out, HG4.out⟩
theorem b1j {r G : Nat} {s : AS} (w : World) (h : ARd w r G s) :
  Calls Tryz.prog 177 #[.pointer (some ⟨r, 0, none⟩)] w (g0m r G w (fun x : Int × Int => .tuple #[.int .i64 x.1, .int .i64 x.2]) (d0x s)) := by
 have HM := h_ (show d0x s = if (mayA (regA (a0d s [91])).2 [44]).1 then (((regA (a0d s [91])).1, (c0o (mayA (regA (a0d s [91])).2 [44]).2).1), a0d (c0o (mayA (regA (a0d s [91])).2 [44]).2).2 [93]) else (((regA (a0d s [91])).1, 0), a0d (mayA (regA (a0d s [91])).2 [44]).2 [93]) from rfl)
 have H1 := h_ (d0o w [91] h)
 have H2 := h_ (fun w1 (hh : ARd w1 r G (a0d s [91])) => e0r w1 hh)
 have H3 := h_ (fun w1 (hh : ARd w1 r G (regA (a0d s [91])).2) => y0e w1 [44] hh)
 clear h
 generalize a0d s [91] = s1 at *
 generalize regA s1 = y at *
 obtain ⟨n, s2⟩ := y
 simp only at HM H3
 generalize mayA s2 [44] = m at *
 obtain ⟨b, s3⟩ := m
 simp only at HM
 go_enter Tryz.func177, Tryz.ntmps177
 go_wp2_with fail
 refine (H1.out).mono ?_
 rintro e w2 ⟨rfl, hr, hg⟩
 have HR := h_ hr
 have HG := h_ hg
 clear hr hg H1
 go_wp2_with fail
 refine (H2.out _ HR.out).mono ?_
 rintro e w3 ⟨rfl, hr, hg⟩
 have HR3 := h_ hr
 have HG3 := h_ (a0a HG.out hg)
 clear hr hg H2 HR HG
 simp only [intV]
 go_wp2_with fail
 refine (H3.out _ HR3.out).mono ?_
 rintro e w4 ⟨rfl, hr, hg⟩
 have HR4 := h_ hr
 have HG4 := h_ (a0a HG3.out hg)
 clear hr hg H3 HR3 HG3
 cases b with
 | true =>
  have HM2 := h_ (show d0x s = ((n, (c0o s3).1), a0d (c0o s3).2 [93]) by rw [HM.out]; rfl)
  have H5 := h_ (l0a w4 HR4.out)
  have H6 := h_ (fun w1 (hh : ARd w1 r G (c0o s3).2) => d0o w1 [93] hh)
  generalize c0o s3 = y at *
  obtain ⟨k, s5⟩ := y
  simp only at HM2 H6
  go_wp2_with fail
  refine (H5.out).mono ?_
  rintro e w5 ⟨rfl, hr, hg⟩
  have HR5 := h_ hr
  have HG5 := h_ (a0a HG4.out hg)
  clear hr hg H5 HR4 HG4
  simp only [intV]
  go_wp2_with fail
  refine (H6.out _ HR5.out).mono ?_
  rintro e w6 ⟨rfl, hr, hg⟩
  have HR6 := h_ hr
  have HG6 := h_ (a0a HG5.out hg)
  clear hr hg H6 HR5 HG5
  go_wp2_with fail
  go_ret2
  exact ⟨by rw [HM2.out]; rfl, by rw [HM2.out]; exact HR6.out, HG6.out⟩
 | false =>
  have HM2 := h_ (show d0x s = ((n, 0), a0d s3 [93]) by rw [HM.out]; rfl)
  have H6 := h_ (d0o w4 [93] HR4.out)
  go_wp2_with fail
  refine (H6.out).mono ?_
  rintro e w6 ⟨rfl, hr, hg⟩
  have HR6 := h_ hr
  have HG6 := h_ (a0a HG4.out hg)
  clear hr hg H6 HG4
  go_wp2_with fail
  go_ret2
  exact ⟨by rw [HM2.out]; rfl, by rw [HM2.out]; exact HR6.out, HG6.out⟩
end
section
open Go.RowKit
theorem g1g (w : World) : Calls Tryz.prog 143 #[.int .i64 15] w fun e w' => e = .returned (.string { data := #[83, 89] }) ∧ w = w' := by
 go_enter Tryz.func143, Tryz.ntmps143
 go_wp2
 go_ret
 exact ⟨rfl, rfl⟩
theorem g1i (w : World) : Calls Tryz.prog 143 #[.int .i64 13] w fun e w' => e = .returned (.string { data := #[76, 68] }) ∧ w = w' := by
 go_enter Tryz.func143, Tryz.ntmps143
 go_wp2
 go_ret
 exact ⟨rfl, rfl⟩
theorem g1h (w : World) : Calls Tryz.prog 143 #[.int .i64 14] w fun e w' => e = .returned (.string { data := #[83, 84] }) ∧ w = w' := by
 go_enter Tryz.func143, Tryz.ntmps143
 go_wp2
 go_ret
 exact ⟨rfl, rfl⟩
theorem g1j (w : World) : Calls Tryz.prog 143 #[.int .i64 11] w fun e w' => e = .returned (.string { data := #[73, 83, 72] }) ∧ w = w' := by
 go_enter Tryz.func143, Tryz.ntmps143
 go_wp2
 go_ret
 exact ⟨rfl, rfl⟩
theorem m1d (w : World) : Calls Tryz.prog 143 #[.int .i64 9] w fun e w' => e = .returned (.string { data := #[73, 83, 72, 76, 68] }) ∧ w = w' := by
 go_enter Tryz.func143, Tryz.ntmps143
 go_wp2
 go_ret
 exact ⟨rfl, rfl⟩
theorem g1l (w : World) : Calls Tryz.prog 143 #[.int .i64 10] w fun e w' => e = .returned (.string { data := #[73, 83, 72, 83, 84] }) ∧ w = w' := by
 go_enter Tryz.func143, Tryz.ntmps143
 go_wp2
 go_ret
 exact ⟨rfl, rfl⟩
theorem y0m (w : World) : Calls Tryz.prog 144 #[.int .i64 0] w fun e w' => e = .returned (.string { data := #[86, 77, 65, 76, 76, 69, 49, 73, 83] }) ∧ w = w' := by
 go_enter Tryz.func144, Tryz.ntmps144
 go_wp2
 go_ret
 exact ⟨rfl, rfl⟩
theorem y0l (w : World) : Calls Tryz.prog 144 #[.int .i64 1] w fun e w' => e = .returned (.string { data := #[86, 65, 69, 49, 73, 83] }) ∧ w = w' := by
 go_enter Tryz.func144, Tryz.ntmps144
 go_wp2
 go_ret
 exact ⟨rfl, rfl⟩
theorem y0k (w : World) : Calls Tryz.prog 144 #[.int .i64 2] w fun e w' => e = .returned (.string { data := #[86, 65, 65, 69, 49, 73, 83] }) ∧ w = w' := by
 go_enter Tryz.func144, Tryz.ntmps144
 go_wp2
 go_ret
 exact ⟨rfl, rfl⟩
theorem y0j (w : World) : Calls Tryz.prog 144 #[.int .i64 3] w fun e w' => e = .returned (.string { data := #[65, 83, 73, 68, 69, 49, 73, 83] }) ∧ w = w' := by
 go_enter Tryz.func144, Tryz.ntmps144
 go_wp2
 go_ret
 exact ⟨rfl, rfl⟩
theorem y0i (w : World) : Calls Tryz.prog 144 #[.int .i64 4] w fun e w' => e = .returned (.string { data := #[86, 77, 65, 76, 76, 69, 49] }) ∧ w = w' := by
 go_enter Tryz.func144, Tryz.ntmps144
 go_wp2
 go_ret
 exact ⟨rfl, rfl⟩
theorem y0h (w : World) : Calls Tryz.prog 144 #[.int .i64 5] w fun e w' => e = .returned (.string { data := #[86, 65, 69, 49] }) ∧ w = w' := by
 go_enter Tryz.func144, Tryz.ntmps144
 go_wp2
 go_ret
 exact ⟨rfl, rfl⟩
theorem y0g (w : World) : Calls Tryz.prog 144 #[.int .i64 6] w fun e w' => e = .returned (.string { data := #[86, 65, 65, 69, 49] }) ∧ w = w' := by
 go_enter Tryz.func144, Tryz.ntmps144
 go_wp2
 go_ret
 exact ⟨rfl, rfl⟩
theorem y0f (w : World) : Calls Tryz.prog 144 #[.int .i64 7] w fun e w' => e = .returned (.string { data := #[65, 83, 73, 68, 69, 49] }) ∧ w = w' := by
 go_enter Tryz.func144, Tryz.ntmps144
 go_wp2
 go_ret
 exact ⟨rfl, rfl⟩
theorem m1c (w : World) : Calls Tryz.prog 145 #[.int .i64 0] w fun e w' => e = .returned (.string { data := #[69, 83, 82, 95, 69, 76, 49] }) ∧ w = w' := by
 go_enter Tryz.func145, Tryz.ntmps145
 go_wp2
 go_ret
 exact ⟨rfl, rfl⟩
theorem m1b (w : World) : Calls Tryz.prog 145 #[.int .i64 1] w fun e w' => e = .returned (.string { data := #[70, 65, 82, 95, 69, 76, 49] }) ∧ w = w' := by
 go_enter Tryz.func145, Tryz.ntmps145
 go_wp2
 go_ret
 exact ⟨rfl, rfl⟩
theorem m1a (w : World) : Calls Tryz.prog 145 #[.int .i64 2] w fun e w' => e = .returned (.string { data := #[69, 76, 82, 95, 69, 76, 49] }) ∧ w = w' := by
 go_enter Tryz.func145, Tryz.ntmps145
 go_wp2
 go_ret
 exact ⟨rfl, rfl⟩
end
section
open Go.RowKit
def Names (f : FuncId) (most : Nat) (name : Nat → List UInt8) : Prop := ∀ (k : Nat) (w : World), k < most → Calls Tryz.prog f #[.int .i64 k] w fun e w' => e = .returned (.string (ba (name k))) ∧ w = w'
theorem u0s : Names 143 16 barN := by
 intro k w hk
 have hkk : k = 0 ∨ k = 1 ∨ k = 2 ∨ k = 3 ∨ k = 4 ∨ k = 5 ∨ k = 6 ∨ k = 7 ∨ k = 8 ∨ k = 9 ∨ k = 10 ∨ k = 11 ∨ k = 12 ∨ k = 13 ∨ k = 14 ∨ k = 15 := by omega
 rcases hkk with rfl | rfl | rfl | rfl | rfl | rfl | rfl | rfl | rfl | rfl | rfl | rfl | rfl | rfl | rfl | rfl
 ·go_enter Tryz.func143, Tryz.ntmps143
  go_wp2
  go_ret
  exact ⟨rfl, rfl⟩
 ·go_enter Tryz.func143, Tryz.ntmps143
  go_wp2
  go_ret
  exact ⟨rfl, rfl⟩
 ·go_enter Tryz.func143, Tryz.ntmps143
  go_wp2
  go_ret
  exact ⟨rfl, rfl⟩
 ·go_enter Tryz.func143, Tryz.ntmps143
  go_wp2
  go_ret
  exact ⟨rfl, rfl⟩
 ·go_enter Tryz.func143, Tryz.ntmps143
  go_wp2
  go_ret
  exact ⟨rfl, rfl⟩
 ·go_enter Tryz.func143, Tryz.ntmps143
  go_wp2
  go_ret
  exact ⟨rfl, rfl⟩
 ·go_enter Tryz.func143, Tryz.ntmps143
  go_wp2
  go_ret
  exact ⟨rfl, rfl⟩
 ·go_enter Tryz.func143, Tryz.ntmps143
  go_wp2
  go_ret
  exact ⟨rfl, rfl⟩
 ·go_enter Tryz.func143, Tryz.ntmps143
  go_wp2
  go_ret
  exact ⟨rfl, rfl⟩
 ·exact m1d w
 ·exact g1l w
 ·exact g1j w
 ·go_enter Tryz.func143, Tryz.ntmps143
  go_wp2
  go_ret
  exact ⟨rfl, rfl⟩
 ·exact g1i w
 ·exact g1h w
 ·exact g1g w
theorem w0f : Names 144 8 k0q := by
 intro k w hk
 have hkk : k = 0 ∨ k = 1 ∨ k = 2 ∨ k = 3 ∨ k = 4 ∨ k = 5 ∨ k = 6 ∨ k = 7 := by omega
 rcases hkk with rfl | rfl | rfl | rfl | rfl | rfl | rfl | rfl
 ·exact y0m w
 ·exact y0l w
 ·exact y0k w
 ·exact y0j w
 ·exact y0i w
 ·exact y0h w
 ·exact y0g w
 ·exact y0f w
theorem c1j : Names 145 3 sysN := by
 intro k w hk
 have hkk : k = 0 ∨ k = 1 ∨ k = 2 := by omega
 rcases hkk with rfl | rfl | rfl
 ·exact m1c w
 ·exact m1b w
 ·exact m1a w
theorem j1z {most : Nat} {p : Nat → Bool} {k : Nat} (hk : k < most) (h : p k = true) (hp : ∀ i, i < k → p i = false) : (List.range most).find? p = some k := by
 rw [List.find?_range_eq_some]
 exact ⟨h, by simpa using hk, fun i hi => by simpa using hp i hi⟩
theorem f1o {most : Nat} {p : Nat → Bool} (hp : ∀ i, i < most → p i = false) : (List.range most).find? p = none := by
 rw [List.find?_range_eq_none]
 intro i hi; simpa using hp i hi
theorem m0j {r G : Nat} {s : AS} (w : World) (f : FuncId) (most : Nat) (name : Nat → List UInt8) (hn : Names f most name) (hm : most ≤ 1000) (hf : ∀ args w1, (callFunc f args).run Tryz.prog w1 = .ok (.enter f args) w1) (h : ARd w r G s) :
  Calls Tryz.prog 166 #[.pointer (some ⟨r, 0, none⟩), .int .i64 most, .func (.func f) #[] #[]] w (g0m r G w intV (e0a s most name)) := by
 have HN := h_ (i0b w h)
 have HF := h_ hn
 have HK := h_ (show e0a s most name = if (a0q s).1 = [] then (0, badA (a0q s).2 true) else match (List.range most).find? (fun k => decide (name k = (a0q s).1)) with | some k => (((k : Nat) : Int), (a0q s).2) | none => (0, badA (a0q s).2 true) from rfl)
 generalize a0q s = y at *
 obtain ⟨x, s2⟩ := y
 obtain ⟨ws, bad⟩ := s2
 clear h hn
 simp only at HK
 go_enter Tryz.func166, Tryz.ntmps166
 go_wp2_with fail
 refine (HN.out).mono ?_
 rintro e w2 ⟨rfl, hr, hg⟩
 have HR := h_ hr
 have HG := h_ hg
 have hrl := hr.lt
 obtain ⟨p, cc, hB, _⟩ := hr
 have c0 := hB.cell 0
 have c1 := hB.cell 1
 have f0 := hB.free 0
 have f1 := hB.free 1
 simp only [gz_, gs_] at c0 c1
 clear hB
 clear hg HN
 go_wp2_with fail
 go_loop [8, 12] (fun _ i => ∃ k : Nat, k ≤ most ∧ i = .int .i64 k ∧ (∀ j, j < k → ¬ (name j = x ∧ ¬ x = []))) (fun _ i => most - (intOf i).toNat)
 case atStart => exact ⟨0, by omega, rfl, fun j hj => by omega⟩
 case round =>
  obtain ⟨k, hk, rfl, hP⟩ := hrel
  have HP := h_ hP
  clear hP
  by_cases hkl : k < most
  ·have hk0 : (0 : Int) ≤ k := by omega
   have hkn : (k : Int) < most := by omega
   have HC := h_ (HF.out k w2 hkl)
   by_cases hx : name k = x
   ·by_cases he : x = []
    ·have hxe : (ba x).toList.isEmpty = true := by rw [b0c, he]; rfl
     have HP2 := h_ (show ∀ j, j < k + 1 → ¬ (name j = x ∧ ¬ x = []) from fun j hj h => h.2 he)
     rw [hx] at HC
     clear hx he
     go_wp2_with fail
     refine (HC.out).mono ?_
     rintro e w3 ⟨rfl, rfl⟩
     go_wp2_with fail
     go_round
     case rel => exact ⟨k + 1, by omega, by go_num, HP2.out⟩
     case measure => simp [intOf] <;> omega
    ·have hxe : (ba x).toList.isEmpty = false := by rw [b0c]; cases x with | nil => exact absurd rfl he | cons a l => rfl
     have HM := h_ (show e0a s most name = (((k : Nat) : Int), (ws, bad)) by
      rw [HK.out, if_neg he, j1z hkl (by simpa using hx) (fun i hi => by
       have := HP.out i hi
       simpa [he] using this)])
     rw [hx] at HC
     clear hx he
     go_wp2_with fail
     refine (HC.out).mono ?_
     rintro e w3 ⟨rfl, rfl⟩
     go_wp2_with fail
     go_ret
     exact ⟨by rw [HM.out]; rfl, by rw [HM.out]; exact HR.out, HG.out⟩
   ·have hxb := ba_ne hx
    have HP2 := h_ (show ∀ j, j < k + 1 → ¬ (name j = x ∧ ¬ x = []) from fun j hj h => by
     by_cases e : j = k
     ·subst e; exact hx h.1
     ·exact HP.out j (by omega) h)
    clear hx
    go_wp2_with fail
    refine (HC.out).mono ?_
    rintro e w3 ⟨rfl, rfl⟩
    go_wp2_with fail
    go_round
    case rel => exact ⟨k + 1, by omega, by go_num, HP2.out⟩
    case measure => simp [intOf] <;> omega
  ·obtain rfl : k = most := by omega
   have HM := h_ (show e0a s k name = (0, badA (ws, bad) true) by
    rw [HK.out]
    by_cases he : x = []
    ·rw [if_pos he]
    ·rw [if_neg he, f1o (fun i hi => by
      have := HP.out i hi
      simpa [he] using this)])
   go_wp2_with fail
   go_ret
   exact ⟨by rw [HM.out]; rfl, by rw [HM.out]; simpa [badA] using HR.out.bad true, a0a HG.out (a0r _ _ _ _)⟩
end
end Go.Proofs.YtmnojnopejhebaaGreat
