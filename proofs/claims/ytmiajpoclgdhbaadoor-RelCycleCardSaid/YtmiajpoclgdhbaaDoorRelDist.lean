/- distances: the walk. -/
import Derived.Test.YtmiajpoclgdhbaaDoorRelBfs
import Derived.Test.YtmiajpoclgdhbaaDoorRelFold
import Derived.Test.YtmiajpoclgdhbaaDoorRelCopy
namespace Go.Proofs.YtmiajpoclgdhbaaDoor
open Go.RowKit
set_option linter.unusedVariables false
set_option linter.unusedSimpArgs false

theorem Rds.setB {w : World} {size n R : Nat} {p : Option Addr} {xs : List Value} (h : Rds w size p n xs) (hne : ∀ a, p = some a → a.block ≠ R) (j : Nat) (v : Value) : Rds (w.setCell ⟨R, j, none⟩ v) size p n xs := by
  refine ⟨h.1, fun hn => ?_⟩
  obtain ⟨g, off, hp, hc⟩ := h.2 hn
  have := hne _ hp
  refine ⟨g, off, hp, fun i hi => ?_⟩
  rw [World.cell?_of_block (w := w) (heap_setCell_other w _ g _ this)]
  exact hc i hi
/-- The numbers in block D, as they stand. -/
def farOf (w : World) (D n : Nat) : List Int := (List.range n).map fun x => match w.cell? ⟨D, x, none⟩ with | some (.int _ z) => z | _ => 0
theorem farOf_blk {w : World} {D n : Nat} {T : TypeId} {far : List Int} (h : Blk w T D (far.map (Value.int .i64))) (hl : far.length = n) : farOf w D n = far := by
  unfold farOf
  apply List.ext_getElem
  · simp [hl]
  · intro i h1 h2
    simp only [List.getElem_map, List.getElem_range, h.cell]
    simp [h2]
def slLen (v : Value) : Nat := match v with | .slice _ m _ => m | _ => 0
theorem far_at {w : World} {D : Nat} {T : TypeId} {far : List Int} (h : Blk w T D (far.map (Value.int .i64))) {x : Nat} (hx : x < far.length) : w.cell? ⟨D, x, none⟩ = some (.int .i64 (far.getD x 0)) := by
  rw [h.cell x]; simp [List.getD_eq_getElem?_getD, hx]

set_option maxRecDepth 100000 in
set_option maxHeartbeats 8000000 in
theorem dist_any (h g n st : Nat) (ws : List Nat) (T : Nat → Nat → Bool) (w : World) (r : RelAt w h g n ws) (hn : n ≤ 128) (hst : st < n) (hs : Says n ws T) (hT : TabW w) :
    Calls Tryd.prog 63 #[.pointer (some ⟨h, 0, none⟩), .int .i64 (st : Nat)] w fun e w' => ∃ D far, e = .returned (.slice (some ⟨D, 0, none⟩) n n) ∧ Dist n st T far ∧ Blk w' 3 D (far.map (Value.int .i64)) ∧ Below w.heap.size w w' := by
  have HR := Lib.hid r
  have HT := Lib.hid hT
  have HS := Lib.hid hs
  obtain ⟨_, _, ⟨c0, hc0, hBl⟩, _⟩ := r
  have hb0 : w.cell? ⟨h, 0, none⟩ = some (.slice (some ⟨g, 0, none⟩) n c0) := hBl.cell 0
  clear hBl hT hs
  have hmk := mk_ints n (by omega)
  have HI0 := Lib.hid (made_ints w n)
  have HB0 := Lib.hid (below_alloc (Below.refl w.heap.size w) (.cells (madeCells #[.int .i64 0] n) 3))
  have hst0 : (0 : Int) ≤ st := by omega
  have hstn : (st : Int) < n := by omega
  go_enter Tryd.func63, Tryd.ntmps63
  go_wp2_with fail
  obtain ⟨w1, hw1⟩ : ∃ w1, w1 = w.alloc (.cells (madeCells #[.int .i64 0] n) 3) := ⟨_, rfl⟩
  have hz1 : w1.heap.size = w.heap.size + 1 := by rw [hw1]; simp
  rw [← hw1] at HI0 HB0 ⊢
  clear hw1 hb0 hmk
  go_loopw [22] (fun i wr => ∃ (k : Nat) (L : List Int), k ≤ n ∧ i = .int .i64 k ∧ L.length = n ∧ (∀ x, x < k → L.getD x 0 = -1) ∧ Blk wr 3 w.heap.size (L.map (Value.int .i64)) ∧ Below w.heap.size w wr ∧ wr.heap.size = w.heap.size + 1) (fun i _ => n - (intOf i).toNat)
  case atStart => exact ⟨0, List.replicate n 0, by omega, rfl, by simp, fun x hx => by omega, HI0.out, HB0.out, hz1⟩
  case round =>
    clear HI0 HB0 hz1
    obtain ⟨k, L, hk, rfl, hL, hE, hD, hB, hz⟩ := hrel
    obtain ⟨wo, rfl⟩ : ∃ wo : World, wo = wr := ⟨_, rfl⟩
    by_cases hkl : k < n
    · have hk0 : (0 : Int) ≤ k := by omega
      have hkn : (k : Int) < n := by omega
      have hf := hD.free k
      have hc := far_at hD (show k < L.length by omega)
      have HDS := Lib.hid (show Blk (wo.setCell ⟨w.heap.size, k, none⟩ (.int .i64 (-1))) 3 w.heap.size ((L.set k (-1)).map (Value.int .i64)) from by rw [List.map_set]; exact hD.set k _)
      have HBS := Lib.hid (hB.setCell (p := ⟨w.heap.size, k, none⟩) (by simp) (.int .i64 (-1)))
      have HES := Lib.hid (show ∀ x, x < k + 1 → (L.set k (-1)).getD x 0 = -1 from fun x hx => by
        rw [getD_set]
        by_cases e : k = x
        · rw [if_pos ⟨e, by omega⟩]
        · rw [if_neg (by omega)]; exact hE x (by omega))
      have HZS := Lib.hid (show (wo.setCell ⟨w.heap.size, k, none⟩ (.int .i64 (-1))).heap.size = w.heap.size + 1 from by simp; exact hz)
      clear hE hD hB hz
      generalize L.getD k 0 = y at *
      go_wp2_with fail
      go_roundw
      case rel => exact ⟨k + 1, L.set k (-1), by omega, by go_num, by simp; exact hL, HES.out, HDS.out, HBS.out, HZS.out⟩
      case measure => simp [intOf]; omega
    · obtain rfl : k = n := by omega
      have HBF := Lib.hid (BF.init (T := T) hL hst hE)
      have HNG := Lib.hid (show negs (L.set st 0) ≤ k ∧ 0 + negs (L.set st 0) ≤ k from by have := negs_le (L.set st 0); simp at this; omega)
      have HD := Lib.hid hD
      have HB := Lib.hid hB
      have HINV := Lib.hid (relinv_any h g k ws wo (HR.out.below hB) hn (says_wf HS.out) (HT.out.belowS hB))
      have HSI := Lib.hid (inv_says hn HS.out)
      clear hE hD hB
      go_wp2_with fail
      refine (HINV.out).mono ?_
      rintro e w2 ⟨rfl, hri, hb2⟩
      have hz2 := hb2.size
      obtain ⟨gi, hgi⟩ : ∃ gi, gi = wo.heap.size := ⟨_, rfl⟩
      rw [← hgi] at hri ⊢
      obtain ⟨hi, hhi⟩ : ∃ hi, hi = gi + 1 := ⟨_, rfl⟩
      rw [← hhi] at hri ⊢
      have hDg : w.heap.size < gi := by omega
      have hDh : w.heap.size < hi := by omega
      have HRI := Lib.hid hri
      have HD := Lib.hid (HD.out.below hb2)
      have HB := Lib.hid (below_trans HB.out hb2)
      have hzz : w.heap.size < w2.heap.size := by omega
      clear hri hb2 HINV hhi hgi hz2
      have hf : (w2.alloc (.cells #[.int .i64 (st : Nat)] 3)).frozen? ⟨w.heap.size, st, none⟩ = false := (HD.out.alloc _).free st
      have hc : (w2.alloc (.cells #[.int .i64 (st : Nat)] 3)).cell? ⟨w.heap.size, st, none⟩ = some (.int .i64 (L.getD st 0)) := far_at (HD.out.alloc _) (by omega)
      have HDS := Lib.hid (show Blk ((w2.setCell ⟨w.heap.size, st, none⟩ (.int .i64 0)).alloc (.cells #[.int .i64 (st : Nat)] 3)) 3 w.heap.size ((L.set st 0).map (Value.int .i64)) from by rw [List.map_set]; exact (HD.out.set st _).alloc _)
      have HBS := Lib.hid (below_alloc (HB.out.setCell (p := ⟨w.heap.size, st, none⟩) (by simp) (.int .i64 0)) (.cells #[.int .i64 (st : Nat)] 3))
      have HRS := Lib.hid ((HRI.out.kept (grown_set w2 ⟨w.heap.size, st, none⟩ (.int .i64 0)) (by simp; omega) (by simp; omega)).kept (World.grownBy_alloc _ (.cells #[.int .i64 (st : Nat)] 3) none) (by simp) (by simp))
      have hz0 : (w2.setCell ⟨w.heap.size, st, none⟩ (.int .i64 0)).heap.size = w2.heap.size := by simp
      have HED := Lib.hid (show Rds ((w2.setCell ⟨w.heap.size, st, none⟩ (.int .i64 0)).alloc (.cells #[.int .i64 (st : Nat)] 3)) 1 (some ⟨w2.heap.size, 0, none⟩) [st].length ([st].map fun b => .int .i64 (b : Nat)) from
        ⟨rfl, fun _ => ⟨_, _, rfl, fun j hj => by rw [Nat.zero_add, ← hz0]; exact (Blk.new (w2.setCell ⟨w.heap.size, st, none⟩ (.int .i64 0)) 3 [.int .i64 (st : Nat)]).cell j⟩⟩)
      have hzs : ((w2.setCell ⟨w.heap.size, st, none⟩ (.int .i64 0)).alloc (.cells #[.int .i64 (st : Nat)] 3)).heap.size = w2.heap.size + 1 := by simp
      have HZS := Lib.hid hzs
      clear hz0
      clear HRI HD HB hzs
      have hLs : (L.set st 0).length = k := by simp; exact hL
      go_wp2_with fail
      generalize L.set st 0 = far0 at *
      generalize (w2.setCell ⟨w.heap.size, st, none⟩ (.int .i64 0)).alloc (.cells #[.int .i64 (st : Nat)] 3) = w3 at *
      clear hf hc
      go_loopw [8] (fun ev wr => ∃ (d : Nat) (far : List Int) (edge : List Nat) (p : Option Addr) (c : Nat), ev = .slice p edge.length c ∧ edge.length ≤ c ∧ edge.length ≤ k ∧ BF k st T d far edge [] (fun _ _ => False) ∧ (0 < edge.length → d + negs far ≤ k) ∧ negs far ≤ k ∧ Blk wr 3 w.heap.size (far.map (Value.int .i64)) ∧ Rds wr 1 p edge.length (edge.map fun b => .int .i64 (b : Nat)) ∧ (∀ a, p = some a → w.heap.size < a.block ∧ a.block < wr.heap.size) ∧ RelAt wr hi gi k (invW k ws) ∧ Below w.heap.size w wr) (fun ev wr => 2 * negs (farOf wr w.heap.size k) + if slLen ev = 0 then 0 else 1)
      case atStart => exact ⟨0, far0, [st], _, _, rfl, by simp, by simp; omega, HBF.out, fun _ => HNG.out.2, HNG.out.1, HDS.out, HED.out, fun a ha => by injection ha with ha; subst ha; have := HZS.out; simp; omega, HRS.out, HBS.out⟩
      case round =>
        clear HBF HNG HDS HED HZS HRS HBS hLs hL
        obtain ⟨d, far, edge, p, c, rfl, hec, hek, hbf, hdn, hng, hD, hED, hpb, hRI, hB⟩ := hrel
        obtain ⟨wm, rfl⟩ : ∃ wm : World, wm = wr := ⟨_, rfl⟩
        by_cases he : 0 < edge.length
        · skip
          have hdn := hdn he
          have hBs := hB.size
          have HBF := Lib.hid (hbf.more (Q := fun _ b => b ∈ edge.take 0) fun v b _ _ _ _ h => by simp at h)
          have HD := Lib.hid hD
          have HED := Lib.hid hED
          have HPB := Lib.hid hpb
          have HRI := Lib.hid hRI
          have HRL := Lib.hid (show gi < wm.heap.size ∧ hi < wm.heap.size from ⟨hRI.glt, hRI.hlt⟩)
          have HDL := Lib.hid hD.lt
          have HB := Lib.hid hB
          have hle := hbf.len
          have HM := Lib.hid (farOf_blk hD hle)
          have HEG := Lib.hid (show ∀ x ∈ edge, x < k ∧ far.getD x 0 = (d : Int) from fun x hx => (hbf.edg x).1 hx)
          have hei : (0 : Int) < edge.length := by omega
          clear hbf hD hED hpb hRI hB
          go_wp2_with fail
          go_loopw [9, 41] (fun nv i wr => ∃ (j : Nat) (far2 : List Int) (next : List Nat), j ≤ edge.length ∧ i = .int .i64 j ∧ BF k st T d far2 edge next (fun _ b => b ∈ edge.take j) ∧ negs far2 + next.length = negs far ∧ Blk wr 3 w.heap.size (far2.map (Value.int .i64)) ∧ wr.ownsRow wm.heap.size 3 1 nv next.length (next.map fun b => .int .i64 (b : Nat)) ∧ Rds wr 1 p edge.length (edge.map fun b => .int .i64 (b : Nat)) ∧ RelAt wr hi gi k (invW k ws) ∧ Below w.heap.size w wr ∧ wm.heap.size ≤ wr.heap.size) (fun _ i _ => edge.length - (intOf i).toNat)
          case atStart => exact ⟨0, far, [], by omega, rfl, HBF.out, by simp, HD.out, World.ownsRow_nil _ _ _ _, HED.out, HRI.out, HB.out, Nat.le_refl _⟩
          case round =>
            clear HBF HD HED HRI HB
            obtain ⟨j, far2, next, hj, rfl, hbf, hnn, hD, hO, hED, hRI, hB, hz⟩ := hrel
            obtain ⟨wo2, rfl⟩ : ∃ wo2 : World, wo2 = wr := ⟨_, rfl⟩
            obtain ⟨pn, cn, rfl, _⟩ := own_form hO
            by_cases hjl : j < edge.length
            · obtain ⟨g2, off2, u, hp, hu, hcj⟩ := hED.at_ (j := j) (by omega)
              have HPP := Lib.hid hp
              subst hp
              have hue : u = .int .i64 ((edge[j] : Nat) : Int) := by
                have : (edge.map fun b => Value.int .i64 (b : Nat))[j]? = some (.int .i64 ((edge[j] : Nat) : Int)) := by simp [hjl]
                rw [this] at hu; exact (Option.some.inj hu).symm
              subst hue
              have HTS := Lib.hid (take_snoc' edge j hjl)
              have hjl2 : j + 1 ≤ edge.length := hjl
              have HAE := Lib.hid (List.getElem_mem hjl)
              generalize hej : edge[j] = a at *
              clear hu hej
              obtain ⟨hak, _⟩ := HEG.out a HAE.out
              have hrr := hRI
              have hL2 := hrr.len
              have d0 := hrr.2.2.2.cell (j := a * 2) (by omega)
              have d1 := hrr.2.2.2.cell (j := a * 2 + 1) (by omega)
              have l0 := hrr.2.2.2.wlt (a * 2)
              have l1 := hrr.2.2.2.wlt (a * 2 + 1)
              obtain ⟨_, _, ⟨ci, hci, hBli⟩, _⟩ := hRI
              have hbi : wo2.cell? ⟨hi, 0, none⟩ = some (.slice (some ⟨gi, 0, none⟩) k ci) := hBli.cell 0
              have HRI := Lib.hid hrr
              have HTW := Lib.hid (HT.out.below hB HT.out.1)
              have HRIN := Lib.hid (show ∀ b, b < k → (b ∈ rowL ((invW k ws).getD (a * 2) 0) ((invW k ws).getD (a * 2 + 1) 0) ↔ T b a = true) from fun b hb => rowOf_in hn HSI.out a b hak hb)
              have HRLT := Lib.hid (show ∀ b ∈ rowL ((invW k ws).getD (a * 2) 0) ((invW k ws).getD (a * 2 + 1) 0), b < k from says_wf HSI.out a hak)
              have HBF := Lib.hid hbf
              have HD := Lib.hid hD
              have HO := Lib.hid hO
              have HED := Lib.hid hED
              have HB := Lib.hid hB
              have hak0 : (0 : Int) ≤ a := by omega
              have hakn : (a : Int) < k := by omega
              have hj0 : (0 : Int) ≤ j := by omega
              have hjn : (j : Int) < edge.length := by omega
              clear hrr hBli hbf hD hO hED hB
              generalize (invW k ws).getD (a * 2) 0 = y0 at *
              generalize (invW k ws).getD (a * 2 + 1) 0 = y1 at *
              have HE := Lib.hid (fun w1 (h : TabW w1) => each_any y0 y1 w1 l0 l1 h)
              have hRl := rowL_len y0 y1
              generalize rowL y0 y1 = R at *
              go_wp2_with fail
              refine (HE.out _ HTW.out).mono ?_
              rintro e w5 ⟨v, rfl, ho, hb⟩
              obtain ⟨pr, cr, rfl, _⟩ := own_form ho
              obtain ⟨hrd, hrc, hrp⟩ := Rds.own ho
              have HRD := Lib.hid hrd
              have HRPB := Lib.hid hrp
              have HLT := Lib.hid (fun k hk => (HO.out.lt k hk))
              have HO := Lib.hid (own_below HO.out hb)
              have HD := Lib.hid (HD.out.below hb)
              have HED := Lib.hid (HED.out.below hb)
              have HRI := Lib.hid (HRI.out.below hb)
              have HB := Lib.hid (below_trans HB.out hb)
              have hz5 : wm.heap.size ≤ w5.heap.size := Nat.le_trans hz hb.size
              have HBF := Lib.hid (HBF.out.more (Q := fun v b => b ∈ edge.take j ∨ b = a ∧ v ∈ R.take 0) fun v b _ _ _ _ h => by
                rcases h with h | h
                · exact .inl h
                · simp at h)
              clear ho hb HE HTW d0 d1 hbi hcj hrd hrp
              go_wp2_with fail
              go_loopw [9, 54] (fun nv i wr => ∃ (m : Nat) (far3 : List Int) (next3 : List Nat), m ≤ R.length ∧ i = .int .i64 m ∧ BF k st T d far3 edge next3 (fun v b => b ∈ edge.take j ∨ b = a ∧ v ∈ R.take m) ∧ negs far3 + next3.length = negs far ∧ Blk wr 3 w.heap.size (far3.map (Value.int .i64)) ∧ wr.ownsRow wm.heap.size 3 1 nv next3.length (next3.map fun b => .int .i64 (b : Nat)) ∧ Rds wr 1 (some ⟨g2, off2, none⟩) edge.length (edge.map fun b => .int .i64 (b : Nat)) ∧ RelAt wr hi gi k (invW k ws) ∧ Rds wr 1 pr R.length (R.map fun b => .int .i64 (b : Nat)) ∧ (∀ x, pr = some x → some x.block ≠ nv.ownBlock ∧ x.block < wr.heap.size ∧ w.heap.size < x.block) ∧ Below w.heap.size w wr ∧ wm.heap.size ≤ wr.heap.size) (fun _ i _ => R.length - (intOf i).toNat)
              case atStart => exact ⟨0, far2, next, by omega, rfl, HBF.out, hnn, HD.out, HO.out, HED.out, HRI.out, HRD.out, fun x hx => ⟨fun e => by have h1 := HLT.out _ e.symm; have h2 := (HRPB.out x hx).1; omega, (HRPB.out x hx).2, by have h2 := (HRPB.out x hx).1; have := HDL.out; omega⟩, HB.out, hz5⟩
              case round =>
                clear HBF HD HO HED HRI HRD HRPB HLT HB hz5
                obtain ⟨m, far3, next3, hm, rfl, hbf, hnn3, hD, hO, hED, hRI, hRD, hNE, hB, hz6⟩ := hrel
                obtain ⟨wi, rfl⟩ : ∃ wi : World, wi = wr := ⟨_, rfl⟩
                obtain ⟨pn3, cn3, rfl, _⟩ := own_form hO
                by_cases hml : m < R.length
                · obtain ⟨g3, off3, u, hp3, hu, hcm⟩ := hRD.at_ (j := m) (by omega)
                  subst hp3
                  have hue : u = .int .i64 ((R[m] : Nat) : Int) := by
                    have : (R.map fun b => Value.int .i64 (b : Nat))[m]? = some (.int .i64 ((R[m] : Nat) : Int)) := by simp [hml]
                    rw [this] at hu; exact (Option.some.inj hu).symm
                  subst hue
                  have HTR := Lib.hid (take_snoc' R m hml)
                  have hbk := HRLT.out R[m] (List.getElem_mem hml)
                  have HTB := Lib.hid ((HRIN.out R[m] hbk).1 (List.getElem_mem hml))
                  generalize hrm : R[m] = b at *
                  clear hu hrm
                  have hl3 := hbf.len
                  have hdb := far_at hD (show b < far3.length by omega)
                  have hda := far_at hD (show a < far3.length by omega)
                  have hd3 := ((hbf.edg a).1 HAE.out).2
                  rw [hd3] at hda
                  have hf := hD.free b
                  have HBF := Lib.hid hbf
                  have hm0 : (0 : Int) ≤ m := by omega
                  have hmn : (m : Int) < R.length := by omega
                  have hb0 : (0 : Int) ≤ b := by omega
                  have hbn : (b : Int) < k := by omega
                  by_cases hneg : far3.getD b 0 < 0
                  · have HBF2 := Lib.hid ((hbf.found hst HAE.out hbk HTB.out hneg).more (Q := fun v x => x ∈ edge.take j ∨ x = a ∧ v ∈ R.take (m + 1)) fun v x _ _ _ _ h => by
                      rcases h with h | ⟨h1, h2⟩
                      · exact .inl (.inl h)
                      · rw [HTR.out, List.mem_append, List.mem_singleton] at h2
                        rcases h2 with h2 | h2
                        · exact .inl (.inr ⟨h1, h2⟩)
                        · subst h2; right; rw [getD_set, if_pos ⟨rfl, by omega⟩]; omega)
                    have hng3 := negs_set (y := (d : Int) + 1) (show b < far3.length by omega) hneg (by omega)
                    have HOS := Lib.hid (ownsRow_setCell_below hO (a := ⟨w.heap.size, b, none⟩) (by show w.heap.size < wm.heap.size; exact HDL.out) (.int .i64 ((d : Int) + 1)))
                    have HDS := Lib.hid (show Blk (wi.setCell ⟨w.heap.size, b, none⟩ (.int .i64 ((d : Int) + 1))) 3 w.heap.size ((far3.set b ((d : Int) + 1)).map (Value.int .i64)) from by rw [List.map_set]; exact hD.set b _)
                    have HPX := Lib.hid (HPB.out _ rfl)
                    have HNX := Lib.hid (hNE _ rfl)
                    have HES := Lib.hid (hED.setB (R := w.heap.size) (fun x hx => by injection hx with hx; subst hx; have := HPX.out.1; simp at this ⊢; omega) b (.int .i64 ((d : Int) + 1)))
                    have HRS := Lib.hid (hRD.setB (R := w.heap.size) (fun x hx => by injection hx with hx; subst hx; have := HNX.out.2.2; simp at this ⊢; omega) b (.int .i64 ((d : Int) + 1)))
                    have HIS := Lib.hid (hRI.kept (grown_set wi ⟨w.heap.size, b, none⟩ (.int .i64 ((d : Int) + 1))) (by simp; omega) (by simp; omega))
                    have HBS := Lib.hid (hB.setCell (p := ⟨w.heap.size, b, none⟩) (by simp) (.int .i64 ((d : Int) + 1)))
                    have hzs : (wi.setCell ⟨w.heap.size, b, none⟩ (.int .i64 ((d : Int) + 1))).heap.size = wi.heap.size := by simp
                    have HZW := Lib.hid hzs
                    have hwd : IntKind.i64.wrap ((d : Int) + 1) = (d : Int) + 1 := IntWalk.i64_in _ (by omega)
                    clear HBF hbf hD hO hED hRI hRD hNE hB hd3
                    generalize far3.getD b 0 = y at *
                    go_wp2_with (at_builtin; refine app1l rfl _ _ 33 rfl wm.heap.size 3 _ 1 8 eli rfl (by decide) _ _ _ rfl HOS.out [.int .i64 (b : Nat)] rfl _ rfl (by simp) (by simp [Value.oneCell']) ?c1 ?c2 ?c3 ?_)
                    case c1 => unfold maxLen; omega
                    case c2 => omega
                    intro v' w7 ho' hg' hb' hl'
                    have HO7 := Lib.hid (show w7.ownsRow wm.heap.size 3 1 v' (next3 ++ [b]).length ((next3 ++ [b]).map fun b => .int .i64 (b : Nat)) from by rw [List.map_append, List.length_append]; exact ho')
                    have HD7 := Lib.hid (HDS.out.belowB hb' HDL.out)
                    have HOL := Lib.hid (fun q hq => (HOS.out.lt q hq).1)
                    have HE7 := Lib.hid (HES.out.grown hg' fun x hx => by injection hx with hx; subst hx; intro e; have h1 := HOL.out _ e.symm; have h2 := HPX.out.2; have h3 : g2 < wm.heap.size := h2; have h4 : wm.heap.size ≤ g2 := h1; omega)
                    have HI7 := Lib.hid (HIS.out.kept hg' (fun e => by have h1 := HOL.out _ e.symm; have := HRL.out.2; omega) (fun e => by have h1 := HOL.out _ e.symm; have := HRL.out.1; omega))
                    have HR7 := Lib.hid (HRS.out.grown hg' fun x hx => by injection hx with hx; subst hx; exact HNX.out.1)
                    have HN7 := Lib.hid (show ∀ x, some (⟨g3, off3, none⟩ : Addr) = some x → some x.block ≠ v'.ownBlock ∧ x.block < w7.heap.size ∧ w.heap.size < x.block from fun x hx => by
                      injection hx with hx
                      subst hx
                      refine ⟨fun e => ?_, Nat.lt_of_lt_of_le (by rw [HZW.out]; exact HNX.out.2.1) hg'.size, HNX.out.2.2⟩
                      rcases hl' _ e.symm with h1 | h1
                      · exact HNX.out.1 h1.symm
                      · have h3 : g3 < wi.heap.size := HNX.out.2.1
                        have h4 : wi.heap.size ≤ g3 := h1
                        omega)
                    have HB7 := Lib.hid (HBS.out.trans (hb'.mono (by omega)))
                    have HZ7 := Lib.hid (show wm.heap.size ≤ w7.heap.size from Nat.le_trans (by omega) hg'.size)
                    clear ho' hg' hb' hl' HOS HDS HES HIS HRS HBS
                    go_wp2_with fail
                    go_roundw
                    case rel => exact ⟨m + 1, far3.set b ((d : Int) + 1), next3 ++ [b], by omega, by go_num, HBF2.out, by simp; omega, HD7.out, HO7.out, HE7.out, HI7.out, HR7.out, HN7.out, HB7.out, HZ7.out⟩
                    case measure => simp [intOf]; omega
                  · have HBF2 := Lib.hid (hbf.more (Q := fun v x => x ∈ edge.take j ∨ x = a ∧ v ∈ R.take (m + 1)) fun v x _ _ _ _ h => by
                      rcases h with h | ⟨h1, h2⟩
                      · exact .inl (.inl h)
                      · rw [HTR.out, List.mem_append, List.mem_singleton] at h2
                        rcases h2 with h2 | h2
                        · exact .inl (.inr ⟨h1, h2⟩)
                        · subst h2; right; omega)
                    have HD := Lib.hid hD
                    have HO := Lib.hid hO
                    have HED := Lib.hid hED
                    have HRI := Lib.hid hRI
                    have HRD := Lib.hid hRD
                    have HNE := Lib.hid hNE
                    have HB := Lib.hid hB
                    clear HBF hbf hD hO hED hRI hRD hNE hB hd3
                    generalize far3.getD b 0 = y at *
                    go_wp2_with fail
                    go_roundw
                    case rel => exact ⟨m + 1, far3, next3, by omega, by go_num, HBF2.out, hnn3, HD.out, HO.out, HED.out, HRI.out, HRD.out, HNE.out, HB.out, hz6⟩
                    case measure => simp [intOf]; omega
                · obtain rfl : m = R.length := by omega
                  have HBF2 := Lib.hid (hbf.more (Q := fun _ x => x ∈ edge.take (j + 1)) fun v x hv hx ht _ h => by
                    rw [HTS.out, List.mem_append, List.mem_singleton] at h
                    rcases h with h | h
                    · exact .inl (.inl h)
                    · subst h; exact .inl (.inr ⟨rfl, by rw [List.take_length]; exact (HRIN.out v hv).2 ht⟩))
                  have HD := Lib.hid hD
                  have HO := Lib.hid hO
                  have HED := Lib.hid hED
                  have HRI := Lib.hid hRI
                  have HB := Lib.hid hB
                  clear hbf hD hO hED hRI hRD hNE hB
                  go_wp2_with fail
                  go_roundw
                  case rel => exact ⟨j + 1, far3, next3, by omega, by go_num, HBF2.out, hnn3, HD.out, HO.out, HED.out, HRI.out, HB.out, hz6⟩
                  case measure => simp [intOf]; omega
            · obtain rfl : j = edge.length := by omega
              have HBF2 := Lib.hid (hbf.more (Q := fun _ b => b ∈ edge) (fun v x _ _ _ _ h => .inl (by rw [List.take_length]; exact h))).level
              have HM2 := Lib.hid (farOf_blk hD hbf.len)
              have HD := Lib.hid hD
              obtain ⟨hrd, hrc, hrp⟩ := Rds.own hO
              have HRD := Lib.hid hrd
              have HRP := Lib.hid (show ∀ a, pn = some a → w.heap.size < a.block ∧ a.block < wo2.heap.size from fun a ha => ⟨Nat.lt_of_lt_of_le HDL.out (hrp a ha).1, (hrp a ha).2⟩)
              have HRI := Lib.hid hRI
              have HB := Lib.hid hB
              clear hbf hD hO hED hRI hB hrd hrp
              go_wp2_with fail
              go_roundw
              case rel => exact ⟨d + 1, far2, next, pn, cn, rfl, hrc, by omega, HBF2.out, fun h0 => by omega, by omega, HD.out, HRD.out, HRP.out, HRI.out, HB.out⟩
              case measure =>
                rw [HM.out, HM2.out]
                have he0 : ¬ edge.length = 0 := by omega
                show 2 * negs far2 + (if next.length = 0 then 0 else 1) < 2 * negs far + (if edge.length = 0 then 0 else 1)
                rw [if_neg he0]
                by_cases q : next.length = 0
                · rw [if_pos q]; omega
                · rw [if_neg q]; omega
        · have hen : edge = [] := List.eq_nil_of_length_eq_zero (by omega)
          subst hen
          have HF := Lib.hid hbf.final
          have HD := Lib.hid hD
          have HB := Lib.hid hB
          clear hbf hD hB hED hpb hRI hdn
          go_wp2_with fail
          go_ret
          exact ⟨_, far, rfl, HF.out, HD.out, HB.out⟩
end Go.Proofs.YtmiajpoclgdhbaaDoor
