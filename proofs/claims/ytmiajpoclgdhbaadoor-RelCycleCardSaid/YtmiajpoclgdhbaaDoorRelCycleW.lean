/- Cycle: the walk. -/
import Derived.Test.YtmiajpoclgdhbaaDoorRelOnward
import Derived.Test.YtmiajpoclgdhbaaDoorRelAcyc
namespace Go.Proofs.YtmiajpoclgdhbaaDoor
open Go.RowKit
set_option linter.unusedVariables false
set_option linter.unusedSimpArgs false

theorem below_of_grown {w w' : World} {B b : Nat} (hg : w.grownBy w' (some b)) (hB : B ≤ b) (hs : B ≤ w.heap.size) : Below B w w' :=
  ⟨hg.os, hg.tape, hg.output, hg.size, fun i hi => hg.block i (by omega) (by simp; omega)⟩
theorem seen_set {sw : List Nat} (hl : sw.length = 2) (b c : Nat) (hb : b < 128) (hc : c < 128) : seenB (setW sw (b / 64) (b % 64)) c = (seenB sw c || decide (c = b)) := by
  unfold seenB
  rw [setW_getD _ _ _ _ (by omega)]
  by_cases e : c / 64 = b / 64
  · rw [if_pos e, Nat.testBit_or, Nat.testBit_two_pow, e]
    congr 1
    rw [decide_eq_decide]; omega
  · rw [if_neg e, decide_eq_false (by rintro rfl; exact e rfl), Bool.or_false]
/-- A way from st on, as far as it is found. -/
structure Way (n st : Nat) (T : Nat → Nat → Bool) (l : List Nat) (at_ : Nat) : Prop where
  lt : ∀ x ∈ l, x < n
  nd : l.Nodup
  ne : l ≠ []
  first : l.getD 0 0 = st
  last : l.getD (l.length - 1) 0 = at_
  one : l.length = 1 → at_ = st
  link : ∀ i, i + 1 < l.length → T (l.getD i 0) (l.getD (i + 1) 0) = true
  far : 1 < l.length → ∀ far, Dist n st T far → 1 ≤ far.getD at_ 0 ∧ ∀ x ∈ l, x = st ∨ far.getD at_ 0 ≤ far.getD x 0
theorem Way.atl {n st at_ : Nat} {T : Nat → Nat → Bool} {l : List Nat} (h : Way n st T l at_) : at_ ∈ l := by
  have h1 := h.ne
  have h2 : 0 < l.length := List.length_pos_iff.2 h1
  rw [← h.last, List.getD_eq_getElem?_getD, List.getElem?_eq_getElem (by omega)]
  exact List.getElem_mem _
theorem Way.stl {n st at_ : Nat} {T : Nat → Nat → Bool} {l : List Nat} (h : Way n st T l at_) : st ∈ l := by
  have h1 := h.ne
  have h2 : 0 < l.length := List.length_pos_iff.2 h1
  rw [← h.first, List.getD_eq_getElem?_getD, List.getElem?_eq_getElem (by omega)]
  exact List.getElem_mem _
theorem Way.begin {n st : Nat} {T : Nat → Nat → Bool} (hst : st < n) : Way n st T [st] st :=
  ⟨fun x hx => by rw [List.mem_singleton] at hx; subst hx; exact hst, by simp, by simp, rfl, rfl, fun _ => rfl, fun i hi => by simp at hi, fun h => by simp at h⟩
theorem Way.go {n st at_ : Nat} {T R : Nat → Nat → Bool} {l : List Nat} (h : Way n st T l at_) (hR : IsClos n T R) (hst : st < n) (hss : R st st = true) (hno : T at_ st = false) (far : List Int) (hd : Dist n st T far) : ∃ b, b < n ∧ T at_ b = true ∧ b ∉ l ∧ 0 ≤ far.getD b 0 ∧ (1 < l.length → far.getD b 0 = far.getD at_ 0 - 1) := by
  have hat := h.lt at_ h.atl
  by_cases h1 : 1 < l.length
  · obtain ⟨h2, h3⟩ := h.far h1 far hd
    obtain ⟨b, hb, ht, hf⟩ := hd.step at_ hat (by omega)
    refine ⟨b, hb, ht, fun hm => ?_, by omega, fun _ => hf⟩
    rcases h3 b hm with h4 | h4
    · subst h4; rw [hno] at ht; cases ht
    · omega
  · have h0 : 0 < l.length := List.length_pos_iff.2 h.ne
    have hl : l.length = 1 := by omega
    have has := h.one hl
    subst has
    obtain ⟨b, hb, ht, hbs⟩ := first_step hR hst hss
    have hne : b ≠ at_ := fun e => by subst e; rw [hno] at ht; cases ht
    refine ⟨b, hb, ht, fun hm => ?_, hd.reach hR hst hb (hbs.resolve_left hne), fun h => absurd h h1⟩
    obtain ⟨y, rfl⟩ := List.length_eq_one_iff.1 hl
    have := h.first
    rw [List.mem_singleton] at hm
    simp at this
    omega
theorem Way.next {n st at_ b : Nat} {T R : Nat → Nat → Bool} {l : List Nat} (h : Way n st T l at_) (hR : IsClos n T R) (hst : st < n) (hss : R st st = true) (hno : T at_ st = false) (far : List Int) (hd : Dist n st T far)
    (hb : b < n) (ht : T at_ b = true) (hm : b ∉ l) (hf : 0 ≤ far.getD b 0) (hmin : ∀ c, c < n → T at_ c = true → c ∉ l → 0 ≤ far.getD c 0 → far.getD b 0 ≤ far.getD c 0) : Way n st T (l ++ [b]) b := by
  have h0 : 0 < l.length := List.length_pos_iff.2 h.ne
  have hat := h.lt at_ h.atl
  have hgl : ∀ i, i < l.length → (l ++ [b]).getD i 0 = l.getD i 0 := fun i hi => by
    rw [List.getD_eq_getElem?_getD, List.getElem?_append_left hi, ← List.getD_eq_getElem?_getD]
  have hgb : (l ++ [b]).getD l.length 0 = b := by simp [List.getD_eq_getElem?_getD]
  have hbst : b ≠ st := fun e => hm (e ▸ h.stl)
  refine ⟨fun x hx => ?_, ?_, by simp, by rw [hgl 0 h0]; exact h.first, by simp, fun h1 => by rw [List.length_append, List.length_singleton] at h1; omega, fun i hi => ?_, fun _ far2 hd2 => ?_⟩
  · rcases List.mem_append.1 hx with hx | hx
    · exact h.lt x hx
    · rw [List.mem_singleton] at hx; subst hx; exact hb
  · rw [List.nodup_append]
    exact ⟨h.nd, by simp, fun x hx y hy e => by rw [List.mem_singleton] at hy; subst hy; subst e; exact hm hx⟩
  · simp at hi
    rw [hgl i (by omega)]
    by_cases e : i + 1 < l.length
    · rw [hgl (i + 1) e]; exact h.link i e
    · have e2 : i + 1 = l.length := by omega
      rw [e2, hgb, show i = l.length - 1 by omega, h.last]; exact ht
  · have heq := fun v hv => hd2.eq hd v hv
    rw [heq b hb]
    have hpos : 1 ≤ far.getD b 0 := by
      have : far.getD b 0 ≠ 0 := fun e => hbst (hd.zero b hb e)
      omega
    refine ⟨hpos, fun x hx => ?_⟩
    rcases List.mem_append.1 hx with hx | hx
    · by_cases e : x = st
      · exact .inl e
      · right
        rw [heq x (h.lt x hx)]
        by_cases h1 : 1 < l.length
        · obtain ⟨_, h3⟩ := h.far h1 far hd
          have h4 := (h3 x hx).resolve_left e
          obtain ⟨c, hc, hct, hcm, hcf, hcd⟩ := h.go hR hst hss hno far hd
          have := hmin c hc hct hcm hcf
          have := hcd h1
          omega
        · exfalso
          have hl : l.length = 1 := by omega
          obtain ⟨y, rfl⟩ := List.length_eq_one_iff.1 hl
          have := h.first
          rw [List.mem_singleton] at hx
          simp at this
          omega
    · rw [List.mem_singleton] at hx; subst hx; right; rw [heq x hb]; omega
/-- What leads round. -/
structure Round (n : Nat) (T : Nat → Nat → Bool) (l : List Nat) : Prop where
  ne : 0 < l.length
  lt : ∀ x ∈ l, x < n
  nd : l.Nodup
  link : ∀ i, i < l.length → T (l.getD i 0) (l.getD ((i + 1) % l.length) 0) = true
theorem Way.round {n st at_ : Nat} {T : Nat → Nat → Bool} {l : List Nat} (h : Way n st T l at_) (ht : T at_ st = true) : Round n T l := by
  have h0 : 0 < l.length := List.length_pos_iff.2 h.ne
  refine ⟨h0, h.lt, h.nd, fun i hi => ?_⟩
  by_cases e : i + 1 < l.length
  · rw [Nat.mod_eq_of_lt e]; exact h.link i e
  · have e2 : i + 1 = l.length := by omega
    rw [e2, Nat.mod_self, h.first, show i = l.length - 1 by omega, h.last]; exact ht
def CyclePost (n : Nat) (T R : Nat → Nat → Bool) (w : World) (e : Ending) (w' : World) : Prop :=
  Below w.heap.size w w' ∧ ((looseT n R = true ∧ e = .returned (.slice none 0 0)) ∨
    (looseT n R = false ∧ ∃ p c l, e = .returned (.slice p l.length c) ∧ l.length ≤ c ∧ Rds w' 1 p l.length (l.map fun b => .int .i64 (b : Nat)) ∧ Round n T l))
set_option maxRecDepth 100000 in
set_option maxHeartbeats 3000000 in
theorem cycle_any (h g n : Nat) (ws : List Nat) (T R : Nat → Nat → Bool) (w : World) (r : RelAt w h g n ws) (hn : n ≤ 128) (hs : Says n ws T) (hR : IsClos n T R) (hT : TabW w) :
    Calls Tryd.prog 40 #[.pointer (some ⟨h, 0, none⟩)] w (CyclePost n T R w) := by
  have HC := Lib.hid (clos_ex h g n ws w r hn)
  have HSC := Lib.hid (clos_says hn r.len hs hR)
  have HR := Lib.hid r
  have HS := Lib.hid hs
  have HRC := Lib.hid hR
  have HT := Lib.hid hT
  clear r hs hR hT
  go_enter Tryd.func40, Tryd.ntmps40
  go_wp2_with fail
  refine (HC.out).mono ?_
  rintro e w1 ⟨hx, gx, rfl, hrx, hb⟩
  have HX := Lib.hid hrx
  obtain ⟨_, _, ⟨cx, hcx, hBx⟩, _⟩ := hrx
  have hbx : w1.cell? ⟨hx, 0, none⟩ = some (.slice (some ⟨gx, 0, none⟩) n cx) := hBx.cell 0
  obtain ⟨_, _, ⟨c0, hc0, hBl⟩, _⟩ := HR.out.below hb
  have HBL := Lib.hid hBl
  have HR := Lib.hid (HR.out.below hb)
  have HT := Lib.hid (HT.out.belowS hb)
  have HB := Lib.hid hb
  clear hBx hBl hb HC
  go_wp2_with fail
  go_loop [4, 16] (fun s i => s = .int .i64 (-1) ∧ ∃ k : Nat, k ≤ n ∧ i = .int .i64 k ∧ ∀ x, x < k → R x x = false) (fun _ i => n - (intOf i).toNat)
  case atStart => exact ⟨rfl, 0, by omega, rfl, fun x hx => by omega⟩
  case round =>
    obtain ⟨rfl, k, hk, rfl, hE⟩ := hrel
    by_cases hkl : k < n
    · have hk0 : (0 : Int) ≤ k := by omega
      have hki : (k : Int) < n := by omega
      have HE := Lib.hid hE
      clear hE
      have HH := Lib.hid (show Calls Tryd.prog 49 #[.pointer (some ⟨gx, k * 2, none⟩), .int .i64 (k : Nat)] w1 (fun e w' => e = .returned (.bool (R k k)) ∧ w1 = w') from by
        have := rowhas_any gx (k * 2) ((closW n ws).getD (k * 2 + k / 64) 0) k w1 (by omega) (HX.out.2.2.2.wlt _) (HX.out.2.2.2.cell (by have := HX.out.len; omega))
        have e : ((closW n ws).getD (k * 2 + k / 64) 0).testBit (k % 64) = hasB (closW n ws) k k := by unfold hasB; rw [show k * 2 = 2 * k by omega]
        rw [e, HSC.out.1 k hkl k hkl] at this
        exact this)
      cases hx : R k k
      · rw [hx] at HH
        have HX2 := Lib.hid hx
        clear hx
        go_wp2_with fail
        refine (HH.out).mono ?_
        rintro e w2 ⟨rfl, rfl⟩
        go_wp2_with fail
        go_round
        case rel => exact ⟨rfl, k + 1, by omega, by go_num, fun x hx => by
          by_cases e : x = k
          · rw [e]; exact HX2.out
          · exact HE.out x (by omega)⟩
        case measure => simp [intOf]; omega
      · rw [hx] at HH
        have HX2 := Lib.hid hx
        have HL := Lib.hid (looseT_false hkl hx)
        have hkneg : ¬ (k : Int) < 0 := by omega
        clear hx HE
        go_wp2_with fail
        refine (HH.out).mono ?_
        rintro e w2 ⟨rfl, rfl⟩
        go_wp2_with fail
        obtain ⟨wa, hwa⟩ : ∃ wa, wa = w1.alloc (.cells #[.int .i64 (k : Nat)] 3) := ⟨_, rfl⟩
        have hza : wa.heap.size = w1.heap.size + 1 := by rw [hwa]; simp
        have HOA := Lib.hid (show wa.ownsRow w1.heap.size 3 1 (.slice (some ⟨w1.heap.size, 0, none⟩) 1 1) [k].length ([k].map fun b => .int .i64 (b : Nat)) from
          ⟨rfl, .inr ⟨w1.heap.size, 1, #[.int .i64 (k : Nat)], rfl, Nat.le_refl _, by rw [hwa]; exact heap_alloc_new w1 _, by simp, by unfold maxLen; omega, rfl, rfl⟩⟩)
        have HBA := Lib.hid (show Below w.heap.size w wa from by rw [hwa]; exact below_alloc HB.out _)
        have HRA := Lib.hid (show RelAt wa h g n ws from by rw [hwa]; exact HR.out.kept (World.grownBy_alloc _ _ none) (by simp) (by simp))
        have HTA := Lib.hid (show TabW wa from by rw [hwa]; exact HT.out.belowS (below_alloc (Below.refl _ _) _))
        rw [← hwa]
        clear hwa
        obtain ⟨wb, hwb⟩ : ∃ wb, wb = wa.alloc (.cells #[.int .u64 0, .int .u64 0] 67) := ⟨_, rfl⟩
        have hzb : wb.heap.size = wa.heap.size + 1 := by rw [hwb]; simp
        have HSB := Lib.hid (show Wds wb (w1.heap.size + 1) [0, 0] from by
          rw [hwb, ← hza]
          refine ⟨_, heap_alloc_new wa _, by simp, fun j hj => ?_, fun j => ?_⟩
          · have hj2 : j < 2 := hj
            rcases (show j = 0 ∨ j = 1 by omega) with e | e <;> subst e <;> rfl
          · match j with
            | 0 => decide
            | 1 => decide
            | j + 2 => simp)
        have HOB := Lib.hid (show wb.ownsRow w1.heap.size 3 1 (.slice (some ⟨w1.heap.size, 0, none⟩) 1 1) [k].length ([k].map fun b => .int .i64 (b : Nat)) from by rw [hwb]; exact HOA.out.alloc _)
        have HBB := Lib.hid (show Below w.heap.size w wb from by rw [hwb]; exact below_alloc HBA.out _)
        have HRB := Lib.hid (show RelAt wb h g n ws from by rw [hwb]; exact HRA.out.kept (World.grownBy_alloc _ _ none) (by simp) (by simp))
        have HTB := Lib.hid (show TabW wb from by rw [hwb]; exact HTA.out.belowS (below_alloc (Below.refl _ _) _))
        rw [← hwb]
        clear hwb HOA HBA HRA HTA HX HBL hbx
        obtain ⟨sb, hsb⟩ : ∃ sb, sb = w1.heap.size + 1 := ⟨_, rfl⟩
        rw [← hsb] at HSB ⊢
        have hws := HB.out.size
        have hgl := HR.out.glt
        have hhl := HR.out.hlt
        have HSET := Lib.hid (rowset_any sb 0 k [0, 0] wb HSB.out (by omega) (by simp; omega))
        clear HH HB HR HT
        refine (HSET.out).mono ?_
        rintro e w3 ⟨rfl, hw3, hg3⟩
        have HW3 := Lib.hid (show Wds w3 sb (setW [0, 0] (k / 64) (k % 64)) from by rw [Nat.zero_add] at hw3; exact hw3)
        have HO3 := Lib.hid (HOB.out.kept hg3 (.inr (by simp [Value.ownBlock]; omega)))
        have HB3 := Lib.hid (HBB.out.trans (below_of_grown hg3 (by omega) (by omega)))
        have HR3 := Lib.hid (HRB.out.kept hg3 (by simp; omega) (by simp; omega))
        have HT3 := Lib.hid (HTB.out.kept hg3 (by omega))
        have hz3 : sb + 1 ≤ w3.heap.size := HW3.out.lt
        have HSN := Lib.hid (show ∀ c, c < 128 → (seenB (setW [0, 0] (k / 64) (k % 64)) c = true ↔ c ∈ [k]) from fun c hc => by
          rw [seen_set rfl k c (by omega) hc]
          have : seenB [0, 0] c = false := by unfold seenB; rcases (show c / 64 = 0 ∨ c / 64 = 1 by omega) with e | e <;> rw [e] <;> simp
          rw [this]; simp)
        have HLN := Lib.hid (show (setW [0, 0] (k / 64) (k % 64)).length = 2 from by simp [setW])
        clear hw3 hg3 HSET HSB HOB HBB HRB HTB
        go_wp2_with fail
        generalize setW [0, 0] (k / 64) (k % 64) = sw0 at *
        go_loopw [6, 8] (fun o a wr => ∃ (l : List Nat) (at_ : Nat) (sw : List Nat), a = .int .i64 at_ ∧ Way n k T l at_ ∧ wr.ownsRow w1.heap.size 3 1 o l.length (l.map fun b => .int .i64 (b : Nat)) ∧ o.ownBlock ≠ some sb ∧ Wds wr sb sw ∧ sw.length = 2 ∧ (∀ c, c < 128 → (seenB sw c = true ↔ c ∈ l)) ∧ RelAt wr h g n ws ∧ TabW wr ∧ Below w.heap.size w wr ∧ sb + 1 ≤ wr.heap.size) (fun o _ _ => n - slLen o)
        case atStart => exact ⟨[k], k, sw0, rfl, Way.begin hkl, HO3.out, by simp [Value.ownBlock]; omega, HW3.out, HLN.out, HSN.out, HR3.out, HT3.out, HB3.out, hz3⟩
        case round =>
          clear HO3 HW3 HLN HSN HR3 HT3 HB3 hz3
          obtain ⟨l, at_, sw, rfl, hway, hO, hne, hW, hwl, hsn, hR, hT, hB, hz⟩ := hrel
          obtain ⟨wo, rfl⟩ : ∃ wo : World, wo = wr := ⟨_, rfl⟩
          obtain ⟨po, co, rfl, _⟩ := own_form hO
          have hat := hway.lt at_ hway.atl
          have hll := nodup_le hway.nd hway.lt
          have hat0 : (0 : Int) ≤ at_ := by omega
          have hatn : (at_ : Int) < n := by omega
          have HH := Lib.hid (show Calls Tryd.prog 49 #[.pointer (some ⟨g, at_ * 2, none⟩), .int .i64 (k : Nat)] wo (fun e w' => e = .returned (.bool (T at_ k)) ∧ wo = w') from by
            have := rowhas_any g (at_ * 2) (ws.getD (at_ * 2 + k / 64) 0) k wo (by omega) (hR.2.2.2.wlt _) (hR.2.2.2.cell (by have := hR.len; omega))
            have e : (ws.getD (at_ * 2 + k / 64) 0).testBit (k % 64) = hasB ws at_ k := by unfold hasB; rw [show at_ * 2 = 2 * at_ by omega]
            rw [e, HS.out.1 at_ hat k hkl] at this
            exact this)
          have HR := Lib.hid hR
          obtain ⟨_, _, ⟨c0, hc0, hBl⟩, _⟩ := hR
          have hbl : wo.cell? ⟨h, 0, none⟩ = some (.slice (some ⟨g, 0, none⟩) n c0) := hBl.cell 0
          have HWAY := Lib.hid hway
          have HO := Lib.hid hO
          have HW := Lib.hid hW
          have HSN := Lib.hid hsn
          have HT := Lib.hid hT
          have HB := Lib.hid hB
          clear hBl hway hO hW hsn hT hB
          cases htk : T at_ k
          · rw [htk] at HH
            have HNO := Lib.hid htk
            have HON := Lib.hid (onward_any h g n k at_ sb ws sw T wo HR.out hn hkl hat HS.out HT.out HW.out hwl fun far hd => by
              obtain ⟨b, hb1, hb2, hb3, hb4, _⟩ := HWAY.out.go HRC.out hkl HX2.out HNO.out far hd
              refine ⟨b, hb1, hb2, ?_, hb4⟩
              cases q : seenB sw b
              · rfl
              · exact absurd ((HSN.out b (by omega)).1 q) hb3)
            clear htk
            go_wp2_with fail
            refine (HH.out).mono ?_
            rintro e w4 ⟨rfl, rfl⟩
            go_wp2_with fail
            rw [← hsb]
            refine (HON.out).mono ?_
            rintro e w4 ⟨far, b, hd, hb1, hb2, hb3, hb4, hb5, rfl, hw4, hg4⟩
            have hbl2 : b ∉ l := fun hm => by rw [(HSN.out b (by omega)).2 hm] at hb3; cases hb3
            have HWAY2 := Lib.hid (HWAY.out.next HRC.out hkl HX2.out HNO.out far hd hb1 hb2 hbl2 hb4 fun c hc1 hc2 hc3 hc4 => hb5 c hc1 hc2 (by
              cases q : seenB sw c
              · rfl
              · exact absurd ((HSN.out c (by omega)).1 q) hc3) hc4)
            have HW4 := Lib.hid hw4
            have HO4 := Lib.hid (HO.out.kept hg4 (.inr hne))
            have HOL := Lib.hid (fun q hq => HO.out.lt q hq)
            have HB4 := Lib.hid (HB.out.trans (below_of_grown hg4 (by omega) (by omega)))
            have HR4 := Lib.hid (HR.out.kept hg4 (by simp; omega) (by simp; omega))
            have HT4 := Lib.hid (HT.out.kept hg4 (by omega))
            have HZ4 := Lib.hid (show sb + 1 ≤ w4.heap.size from hw4.lt)
            have HSN4 := Lib.hid (show ∀ c, c < 128 → (seenB (setW sw (b / 64) (b % 64)) c = true ↔ c ∈ l ++ [b]) from fun c hc => by
              rw [seen_set hwl b c (by omega) hc, Bool.or_eq_true, HSN.out c hc, List.mem_append, List.mem_singleton, decide_eq_true_iff])
            have hwl4 : (setW sw (b / 64) (b % 64)).length = 2 := by simp [setW]; exact hwl
            have hll2 := nodup_le HWAY2.out.nd HWAY2.out.lt
            rw [List.length_append, List.length_singleton] at hll2
            clear hd hb2 hb3 hb4 hb5 hw4 hg4 hbl2 HON HH HO HW HSN HT HB HR hbl
            generalize setW sw (b / 64) (b % 64) = sw2 at *
            go_wp2_with (at_builtin; refine app1l rfl _ _ 33 rfl w1.heap.size 3 _ 1 8 eli rfl (by decide) _ _ _ rfl HO4.out [.int .i64 (b : Nat)] rfl _ rfl (by simp) (by simp [Value.oneCell']) ?c1 ?c2 ?c3 ?_)
            case c1 => unfold maxLen; omega
            case c2 => omega
            case c3 => have := HZ4.out; omega
            intro v' w7 ho' hg' hb' hl'
            have HO7 := Lib.hid (show w7.ownsRow w1.heap.size 3 1 v' (l ++ [b]).length ((l ++ [b]).map fun b => .int .i64 (b : Nat)) from by rw [List.map_append, List.length_append]; exact ho')
            have hne2 : some sb ≠ (Value.slice po l.length co).ownBlock := fun e => hne e.symm
            have HW7 := Lib.hid (HW4.out.kept hg' hne2)
            have HR7 := Lib.hid (HR4.out.kept hg' (fun e => by have := (HOL.out _ e.symm).1; omega) (fun e => by have := (HOL.out _ e.symm).1; omega))
            have HT7 := Lib.hid (HT4.out.below hb' (by omega))
            have HB7 := Lib.hid (HB4.out.trans (hb'.mono (by omega)))
            have HZ7 := Lib.hid (Nat.le_trans HZ4.out hg'.size)
            have HN7 := Lib.hid (show v'.ownBlock ≠ some sb from fun e => by
              rcases hl' _ e with h1 | h1
              · exact hne h1
              · have := HZ4.out; omega)
            obtain ⟨p7, c7, rfl, _⟩ := own_form ho'
            clear ho' hg' hb' hl' HW4 HO4 HB4 HR4 HT4
            go_wp2_with fail
            go_roundw
            case rel => exact ⟨l ++ [b], b, sw2, rfl, HWAY2.out, HO7.out, HN7.out, HW7.out, hwl4, HSN4.out, HR7.out, HT7.out, HB7.out, HZ7.out⟩
            case measure => simp only [slLen]; omega
          · rw [htk] at HH
            have HRND := Lib.hid (HWAY.out.round htk)
            obtain ⟨hrd, hrc, hrp⟩ := Rds.own HO.out
            have HRD := Lib.hid hrd
            clear htk hrd hrp
            go_wp2_with fail
            refine (HH.out).mono ?_
            rintro e w4 ⟨rfl, rfl⟩
            go_wp2_with fail
            go_ret
            exact ⟨HB.out, .inr ⟨HL.out, po, co, l, rfl, hrc, HRD.out, HRND.out⟩⟩
    · obtain rfl : k = n := by omega
      have HL := Lib.hid (looseT_iff.2 hE)
      clear hE
      go_wp2_with fail
      go_ret
      exact ⟨HB.out, .inl ⟨HL.out, rfl⟩⟩
end Go.Proofs.YtmiajpoclgdhbaaDoor
