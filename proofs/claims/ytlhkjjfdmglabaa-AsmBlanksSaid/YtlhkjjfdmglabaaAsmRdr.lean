/- The reader of a text's parts: what its functions do. -/
import Derived.Test.YtlhkjjfdmglabaaAsmMod
import Derived.Test.YtlhkjjfdmglabaaAsmWords
import Derived.Test.YtlhkjjfdmglabaaFrames
import Derived.Outline
import Derived.Test.YtlhkjjfdmglabaaParseWalk
namespace Go.Proofs.Ytlhkjjfdmglabaa
open Go.RowKit
set_option linter.unusedVariables false
set_option linter.unusedSimpArgs false

/-- A reader at block r: the parts that are left, and whether it is bad. -/
def ARd (w : World) (r G : Nat) (s : AS) : Prop :=
  ∃ p c, Blk w 46 r [.slice p s.1.length c, .bool s.2] ∧ Rds w 1 p s.1.length (s.1.map strV) ∧ s.1.length ≤ c ∧ c ≤ maxLen ∧ (∀ a, p = some a → a.block ≠ r) ∧ (∀ q ∈ s.1, q.length ≤ 1100000) ∧ (∀ a, p = some a → a.block < G) ∧ G ≤ w.heap.size
theorem ARd.lt {w : World} {r G : Nat} {s : AS} (h : ARd w r G s) : r < w.heap.size := by obtain ⟨p, c, h, _⟩ := h; exact h.lt
theorem ARd.below {w w' : World} {r G : Nat} {s : AS} (h : ARd w r G s) (hb : Below w.heap.size w w') : ARd w' r G s := by
  obtain ⟨p, c, h1, h2, h3, h4, h5, h6, h7, h8⟩ := h
  exact ⟨p, c, h1.below hb, h2.below hb, h3, h4, h5, h6, h7, Nat.le_trans h8 hb.size⟩
theorem ARd.dn {w : World} {r G : Nat} {s : AS} (h : ARd w r G s) (k : Nat) : ARd (w.drewN k) r G s := h
theorem ARd.set1 {w : World} {r G : Nat} {s : AS} (h : ARd w r G s) (b : Bool) : ARd (w.setCell ⟨r, 1, none⟩ (.bool b)) r G (s.1, b) := by
  obtain ⟨p, c, h1, h2, h3, h4, h5, h6, h7, h8⟩ := h
  exact ⟨p, c, by simpa using h1.set 1 (.bool b), h2.grownR (grown_setR w r 1 _) (fun a ha e => h5 a ha (by injection e)), h3, h4, h5, h6, h7, by simpa using h8⟩
/-- A store into a block of one's own. -/
theorem ARd.other {w : World} {r G : Nat} {s : AS} (h : ARd w r G s) {B : Nat} (hB : G ≤ B) (hr : r ≠ B) (j : Nat) (v : Value) : ARd (w.setCell ⟨B, j, none⟩ v) r G s := by
  obtain ⟨p, c, h1, h2, h3, h4, h5, h6, h7, h8⟩ := h
  exact ⟨p, c, h1.other (p := ⟨B, j, none⟩) hr v, h2.grownR (grown_setR w B j _) (fun a ha e => by injection e with e; have := h7 a ha; omega), h3, h4, h5, h6, h7, by simpa using h8⟩
theorem ARd.G_le {w : World} {r G : Nat} {s : AS} (h : ARd w r G s) : G ≤ w.heap.size := by obtain ⟨p, c, h1, h2, h3, h4, h5, h6, h7, h8⟩ := h; exact h8
def SomeR {α : Type} (r G : Nat) (w : World) (V : α → Value) (x : α × AS) (e : Ending) (w' : World) : Prop := e = .returned (V x.1) ∧ ARd w' r G x.2 ∧ w.grownBy w' (some r)
theorem ard_tail {w : World} {r G g off c o' c' : Nat} {x : List UInt8} {ws : List (List UInt8)} {bad : Bool} (hB : Blk w 46 r [.slice (some ⟨g, off, none⟩) (ws.length + 1) c, .bool bad])
    (hR : Rds w 1 (some ⟨g, off, none⟩) (ws.length + 1) ((x :: ws).map strV)) (hgr : g ≠ r) (ho : 0 < ws.length → o' = off + 1) (hc : ws.length ≤ c') (hcm : c' ≤ maxLen) (hq : ∀ q ∈ x :: ws, q.length ≤ 1100000) (hgG : g < G) (hGw : G ≤ w.heap.size) :
    ARd (w.setCell ⟨r, 0, none⟩ (.slice (some ⟨g, o', none⟩) ws.length c')) r G (ws, bad) := by
  have h1 := hR.grownR (grown_setR w r 0 (.slice (some ⟨g, o', none⟩) ws.length c')) (fun a ha e => hgr (by cases ha; injection e))
  refine ⟨some ⟨g, o', none⟩, c', by simpa using hB.set 0 (.slice (some ⟨g, o', none⟩) ws.length c'), ⟨by simp, fun hn => ?_⟩, hc, hcm, fun a ha => by cases ha; exact hgr, fun q hq' => hq q (List.mem_cons_of_mem _ hq'), fun a ha => by cases ha; exact hgG, by simpa using hGw⟩
  obtain rfl := ho hn
  refine ⟨g, off + 1, rfl, fun j hj => ?_⟩
  obtain ⟨g', off', hp, hcell⟩ := h1.2 (by omega)
  cases hp
  have hj' : j < ws.length := by simpa using hj
  have := hcell (j + 1) (by omega)
  rw [show off + 1 + j = off + (j + 1) by omega, this]
  simp
set_option maxRecDepth 100000 in
set_option maxHeartbeats 1600000 in
theorem anext_any {r G : Nat} {s : AS} (w : World) (h : ARd w r G s) :
    Calls Try.prog 41 #[.pointer (some ⟨r, 0, none⟩)] w (SomeR r G w (fun x => .string (ba x)) (nextA s)) := by
  have HR := Lib.hid h
  obtain ⟨ws, bad⟩ := s
  obtain ⟨p, c, hB, hRd, hlc, hcm, hne, hq, hqG, hGw⟩ := h
  have c0 := hB.cell 0
  have c1 := hB.cell 1
  have f0 := hB.free 0
  have f1 := hB.free 1
  simp only [List.getElem?_cons_zero, List.getElem?_cons_succ] at c0 c1
  cases ws with
  | nil =>
    have HX := Lib.hid (show ARd (w.setCell ⟨r, 1, none⟩ (.bool true)) r G ([], true) from HR.out.set1 true)
    clear hB hRd HR hne hq hqG hGw
    go_enter Try.func41, Try.ntmps41
    go_wp2_with fail
    go_ret
    exact ⟨rfl, HX.out, grown_setR _ _ _ _⟩
  | cons x ws =>
    obtain ⟨g, off, u, rfl, hu, hc⟩ := hRd.at_ (j := 0) (by simp)
    obtain rfl : u = .string (ba x) := by simpa [strV] using hu.symm
    rw [Nat.add_zero] at hc
    simp only [List.length_cons] at c0 hlc
    clear hu
    have hgr : g ≠ r := hne _ rfl
    unfold maxLen at hcm
    by_cases h1 : c = 1
    · subst h1
      obtain rfl : ws = [] := List.eq_nil_of_length_eq_zero (by omega)
      have HX := Lib.hid (ard_tail (o' := off) (c' := 0) hB hRd hgr (by simp) (by simp) (by unfold maxLen; omega) hq (hqG _ rfl) hGw)
      clear hB hRd hne hq hqG hGw
      simp only [List.length_nil] at c0 hlc
      go_enter Try.func41, Try.ntmps41
      go_wp2_with fail
      go_ret
      exact ⟨rfl, HX.out, grown_setR _ _ _ _⟩
    · have HX := Lib.hid (ard_tail (o' := off + 1) (c' := c - 1) hB hRd hgr (by simp) (by omega) (by unfold maxLen; omega) hq (hqG _ rfl) hGw)
      clear hB hRd hne hq hqG hGw
      go_enter Try.func41, Try.ntmps41
      go_wp2_with fail
      go_ret
      exact ⟨rfl, HX.out, grown_setR _ _ _ _⟩
set_option maxRecDepth 100000 in
set_option maxHeartbeats 1600000 in
theorem amust_any {r G : Nat} {s : AS} (w : World) (t : List UInt8) (h : ARd w r G s) :
    Calls Try.prog 47 #[.pointer (some ⟨r, 0, none⟩), .string (ba t)] w fun e w' => e = .returned (.tuple #[]) ∧ ARd w' r G (mustA s t) ∧ w.grownBy w' (some r) := by
  have HN := Lib.hid (anext_any w h)
  have HM := Lib.hid (show mustA s t = badA (nextA s).2 (decide (¬ (nextA s).1 = t)) from rfl)
  generalize nextA s = y at *
  obtain ⟨x, s2⟩ := y
  by_cases hx : x = t
  · subst hx
    clear h
    go_enter Try.func47, Try.ntmps47
    go_wp2_with fail
    refine (HN.out).mono ?_
    rintro e w2 ⟨rfl, hr, hg⟩
    have HR := Lib.hid hr
    have HG := Lib.hid hg
    clear hr hg HN
    go_wp2_with fail
    go_end0
    exact ⟨rfl, by rw [HM.out]; simpa [badA] using HR.out, HG.out⟩
  · have hxb : ((ba x).toList == (ba t).toList) = false := toList_ne (fun e => hx (by have := congrArg (fun b => b.data.toList) e; simpa [ba_data] using this))
    have HX := Lib.hid hx
    clear h hx
    go_enter Try.func47, Try.ntmps47
    go_wp2_with fail
    refine (HN.out).mono ?_
    rintro e w2 ⟨rfl, hr, hg⟩
    have HR := Lib.hid hr
    have HG := Lib.hid hg
    have hrl := hr.lt
    obtain ⟨p, c, hB, _⟩ := hr
    have c1 := hB.cell 1
    have f1 := hB.free 1
    simp only [List.getElem?_cons_zero, List.getElem?_cons_succ] at c1
    clear hg HN hB
    go_wp2_with fail
    go_end0
    exact ⟨rfl, by rw [HM.out]; simp only [HX.out, badA, not_false_eq_true, decide_true, Bool.or_true]; exact HR.out.set1 true, grown_thenR HG.out (grown_setR _ _ _ _)⟩
end Go.Proofs.Ytlhkjjfdmglabaa
