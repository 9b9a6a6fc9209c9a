/- A text that is made of blanks, words, numbers and signs is read as just these: plain. -/
import Derived.Test.YtmnojnopejhebaaGreatMgaa
import Derived.Test.YtmnojnopejhebaaGreatMgag
import Derived.Test.YtmnojnopejhebaaGreatMgau
namespace Go.Proofs.YtmnojnopejhebaaGreat
set_option linter.unusedVariables false
set_option linter.unusedSimpArgs false
set_option maxRecDepth 100000
set_option maxHeartbeats 25600000
section
open Go.RowKit
def seg (L : List UInt8) (a b : Nat) : List UInt8 := (L.drop a).take (b - a)
theorem seg_nil (L : List UInt8) (a : Nat) : seg L a a = [] := by simp [seg]
theorem seg_cons {L : List UInt8} {a b : Nat} (h : a < b) (hb : b ≤ L.length) : seg L a b = L[a]'(by omega) :: seg L (a + 1) b := by
 unfold seg
 rw [List.drop_eq_getElem_cons (by omega), show b - a = (b - (a + 1)) + 1 by omega, List.take_succ_cons]
theorem seg_snoc {L : List UInt8} {a b : Nat} (h : a ≤ b) (hb : b < L.length) : seg L a (b + 1) = seg L a b ++ [L[b]] := by
 unfold seg
 rw [show b + 1 - a = (b - a) + 1 by omega, List.take_succ_eq_append_getElem (by simp; omega)]
 congr 1
 simp [show a + (b - a) = b by omega]
theorem seg_len {L : List UInt8} {a b : Nat} (h : a ≤ b) (hb : b ≤ L.length) : (seg L a b).length = b - a := by simp [seg]; omega
theorem seg_split {L : List UInt8} {a b c : Nat} (h : a ≤ b) (hc : b ≤ c) : seg L a c = seg L a b ++ seg L b c := by
 unfold seg
 have e : L.drop b = (L.drop a).drop (b - a) := by rw [List.drop_drop]; congr 1; omega
 rw [e, show c - a = (b - a) + (c - b) by omega, List.take_add]
theorem extract_seg (s : ByteArray) (a b : Nat) : (s.extract a b).data.toList = seg s.data.toList a b := by
 rw [ByteArray.data_extract, Array.toList_extract]; rfl
theorem len_list (s : ByteArray) : s.data.toList.length = s.size := by show s.data.toList.length = s.data.size; simp
theorem bt_seg {s : ByteArray} {k : Nat} (h : k < s.data.toList.length) : bt s k = ((s.data.toList[k]).toNat : Int) := by
 have h' : k < s.size := by rw [← len_list]; exact h
 rw [bt_eq h']; rfl
theorem scan_seg {s : ByteArray} {p : Nat → Bool} {P : UInt8 → Bool} (hp : ∀ k (h : k < s.data.toList.length), p k = P (s.data.toList[k])) {b : Nat} (hb : b ≤ s.data.toList.length) : ∀ (n a : Nat), b - a = n → a ≤ b → scan p b a = a + ((seg s.data.toList a b).takeWhile fun c => !P c).length := by
 intro n
 induction n with
 | zero => intro a hn ha; have e : a = b := by omega
           subst e; rw [scan_stop (by omega), seg_nil]; rfl
 | succ n ih =>
  intro a hn ha
  rw [seg_cons (by omega) hb]
  cases h : P (s.data.toList[a]'(by omega))
  ·rw [scan_miss (by omega) ((hp a (by omega)).trans h), ih (a + 1) (by omega) (by omega), List.takeWhile_cons_of_pos (by show (!P _) = true; rw [h]; rfl)]
   simp; omega
  ·rw [scan_hit (by omega) ((hp a (by omega)).trans h), List.takeWhile_cons_of_neg (by show ¬ (!P _) = true; rw [h]; decide)]; rfl
theorem back_seg {s : ByteArray} {p : Nat → Bool} {P : UInt8 → Bool} (hp : ∀ k (h : k < s.data.toList.length), p k = P (s.data.toList[k])) {a : Nat} : ∀ (n t : Nat), t - a = n → a ≤ t → t ≤ s.data.toList.length → back p a t + ((seg s.data.toList a t).reverse.takeWhile P).length = t := by
 intro n
 induction n with
 | zero => intro t hn ha ht; have e : a = t := by omega
           subst e; rw [back_stop (by omega), seg_nil]; rfl
 | succ n ih =>
  intro t hn ha ht
  obtain ⟨u, rfl⟩ : ∃ u, t = u + 1 := ⟨t - 1, by omega⟩
  rw [seg_snoc (by omega) (by omega), List.reverse_append]
  show _ + ((s.data.toList[u] :: (seg s.data.toList a u).reverse).takeWhile P).length = _
  cases h : P (s.data.toList[u]'(by omega))
  ·rw [back_miss (by omega) ((hp u (by omega)).trans h), List.takeWhile_cons_of_neg (by rw [h]; decide)]; rfl
  ·rw [back_hit (by omega) ((hp u (by omega)).trans h), List.takeWhile_cons_of_pos h]
   have := ih u (by omega) (by omega) (by omega)
   simp only [Nat.add_sub_cancel, List.length_cons]; omega
def cutL : List UInt8 → List UInt8
 | [] => []
 | c :: l => if c = 47 ∧ l.head? = some 47 then [] else c :: cutL l
def blankU (c : UInt8) : Bool := blankB (c.toNat : Int)
def trimL (l : List UInt8) : List UInt8 := ((l.dropWhile blankU).reverse.dropWhile blankU).reverse
theorem nat47 (c : UInt8) : (((c.toNat : Nat) : Int) == 47) = decide (c = 47) := by
 rw [Bool.eq_iff_iff, beq_iff_eq, decide_eq_true_iff]
 constructor
 ·intro h; apply UInt8.toNat_inj.1; simp; omega
 ·intro h; subst h; rfl
theorem cut_seg {s : ByteArray} {b : Nat} (hb : b ≤ s.data.toList.length) : ∀ (n a : Nat), b - a = n → a ≤ b → cutF s a b = a + (cutL (seg s.data.toList a b)).length := by
 intro n
 induction n with
 | zero => intro a hn ha; have e : a = b := by omega
           subst e; rw [seg_nil]; unfold cutF; rw [scan_stop (by omega), if_neg (by omega)]; rfl
 | succ n ih =>
  intro a hn ha
  rw [seg_cons (by omega) hb]
  have hh : (seg s.data.toList (a + 1) b).head? = some 47 ↔ a + 1 < b ∧ bt s (a + 1) = 47 := by
   by_cases h1 : a + 1 < b
   ·rw [seg_cons h1 hb, bt_seg (by omega)]
    simp only [List.head?_cons, Option.some.injEq, h1, true_and]
    rw [← beq_iff_eq (b := (47 : Int)), nat47, decide_eq_true_iff]
   ·have e : a + 1 = b := by omega
    rw [e, seg_nil]; simp
  by_cases h : s.data.toList[a]'(by omega) = 47 ∧ (seg s.data.toList (a + 1) b).head? = some 47
  ·have h1 := hh.1 h.2
   have hs : slash2 s a = true := by unfold slash2; rw [bt_seg (by omega), h.1, h1.2]; rfl
   rw [cutL, if_pos h]
   unfold cutF
   rw [scan_hit (by omega) hs, if_pos (by omega)]; rfl
  ·rw [cutL, if_neg h]
   by_cases h1 : a + 1 < b
   ·have hs : slash2 s a = false := by
     cases hq : slash2 s a
     ·rfl
     ·exfalso; apply h
      unfold slash2 at hq
      rw [Bool.and_eq_true, beq_iff_eq, beq_iff_eq, bt_seg (by omega)] at hq
      refine ⟨?_, hh.2 ⟨h1, hq.2⟩⟩
      have := nat47 (s.data.toList[a]'(by omega))
      rw [hq.1] at this
      exact of_decide_eq_true this.symm
    have e : cutF s a b = cutF s (a + 1) b := by unfold cutF; rw [scan_miss (by omega) hs]
    rw [e, ih (a + 1) (by omega) (by omega)]
    simp; omega
   ·have e : a + 1 = b := by omega
    unfold cutF
    rw [scan_stop (by omega), if_neg (by omega), e, seg_nil]
    simp [cutL]; omega
theorem drop_takeWhile {α : Type} (P : α → Bool) : ∀ (l : List α), l.drop (l.takeWhile P).length = l.dropWhile P
 | [] => rfl
 | a :: l => by
  cases h : P a
  ·rw [List.takeWhile_cons_of_neg (by simp [h]), List.dropWhile_cons_of_neg (by simp [h])]; rfl
  ·rw [List.takeWhile_cons_of_pos h, List.dropWhile_cons_of_pos h]; exact drop_takeWhile P l
theorem cutL_pre : ∀ (l : List UInt8), ∃ m, l = cutL l ++ m
 | [] => ⟨[], rfl⟩
 | c :: l => by
  rw [cutL]
  split
  ·exact ⟨_, rfl⟩
  ·obtain ⟨m, hm⟩ := cutL_pre l
   exact ⟨m, by rw [List.cons_append, ← hm]⟩
theorem seg_cut {L : List UInt8} {a b : Nat} (ha : a ≤ b) (hb : b ≤ L.length) : seg L a (a + (cutL (seg L a b)).length) = cutL (seg L a b) := by
 obtain ⟨m, hm⟩ := cutL_pre (seg L a b)
 have hl : (cutL (seg L a b)).length ≤ b - a := by
  have := congrArg List.length hm
  rw [seg_len ha hb] at this; simp at this; omega
 have key : ∀ k, k ≤ b - a → seg L a (a + k) = (seg L a b).take k := fun k hk => by
  unfold seg; rw [List.take_take]; congr 1; omega
 rw [key _ hl]
 have h2 : ∀ (x q m : List UInt8), x = q ++ m → x.take q.length = q := by
  intro x q m h; subst h; simp
 exact h2 _ _ m hm
def rowL (l : List UInt8) : List UInt8 := trimL (cutL l)
theorem row_seg {s : ByteArray} {a b : Nat} (ha : a ≤ b) (hb : b ≤ s.data.toList.length) : seg s.data.toList (headF s a b) (tailF s a b) = rowL (seg s.data.toList a b) ∧ headF s a b = a + ((cutL (seg s.data.toList a b)).takeWhile blankU).length := by
 have hc := cut_seg hb _ a rfl ha
 have hc2 := seg_cut ha hb
 have hcb : cutF s a b ≤ b := (cutF_bd s a b ha).2
 have hcu : cutF s a b ≤ s.data.toList.length := by omega
 have hh : headF s a b = a + ((cutL (seg s.data.toList a b)).takeWhile blankU).length := by
  unfold headF
  rw [scan_seg (P := fun c => !blankU c) (fun k h => by unfold solidB blankU; rw [bt_seg h]) hcu _ a rfl (by omega), hc, hc2]
  simp
 have hd : seg s.data.toList (headF s a b) (cutF s a b) = (cutL (seg s.data.toList a b)).dropWhile blankU := by
  have h1 := headF_bd s a b ha
  rw [← drop_takeWhile, ← hc2]
  rw [← hc]
  have e : seg s.data.toList (headF s a b) (cutF s a b) = (seg s.data.toList a (cutF s a b)).drop (headF s a b - a) := by
   rw [seg_split h1.1 h1.2, List.drop_left' (by rw [seg_len h1.1 (by omega)])]
  rw [e, hh, hc, hc2]
  simp
 have h1 := headF_bd s a b ha
 have ht := back_seg (s := s) (p := fun k => blankB (bt s k)) (P := blankU) (fun k h => by unfold blankU; rw [bt_seg h]) (a := headF s a b) _ (cutF s a b) rfl h1.2 hcu
 refine ⟨?_, hh⟩
 have h2 := tailF_bd s a b ha
 unfold rowL trimL
 rw [← hd]
 have ht2 : tailF s a b + ((seg s.data.toList (headF s a b) (cutF s a b)).reverse.takeWhile blankU).length = cutF s a b := ht
 have e : seg s.data.toList (headF s a b) (tailF s a b) = (seg s.data.toList (headF s a b) (cutF s a b)).take (tailF s a b - headF s a b) := by
  rw [seg_split (b := tailF s a b) (c := cutF s a b) h2.1 (by omega), List.take_left' (by rw [seg_len h2.1 (by omega)])]
 rw [e, ← drop_takeWhile]
 generalize hq : seg s.data.toList (headF s a b) (cutF s a b) = q at *
 have hql : q.length = cutF s a b - headF s a b := by rw [← hq, seg_len h1.2 hcu]
 rw [List.reverse_drop, List.reverse_reverse]
 congr 1
 simp only [List.length_reverse]
 omega
def linesL : List UInt8 → List (List UInt8)
 | [] => [[]]
 | c :: l => if c = 10 then [] :: linesL l else match linesL l with
  | x :: xs => (c :: x) :: xs
  | [] => [[c]]
theorem linesL_nl : ∀ (p : List UInt8) (l : List UInt8), (10 : UInt8) ∉ p → linesL (p ++ 10 :: l) = p :: linesL l
 | [], l, _ => by simp [linesL]
 | c :: p, l, h => by
  have hc : ¬ c = 10 := fun e => h (by simp [e])
  rw [List.cons_append, linesL, if_neg hc, linesL_nl p l (fun e => h (List.mem_cons_of_mem _ e))]
theorem linesL_one : ∀ (p : List UInt8), (10 : UInt8) ∉ p → linesL p = [p]
 | [], _ => rfl
 | c :: p, h => by
  have hc : ¬ c = 10 := fun e => h (by simp [e])
  rw [linesL, if_neg hc, linesL_one p (fun e => h (List.mem_cons_of_mem _ e))]
def rowsL (L : List UInt8) : List (List UInt8) := ((linesL L).map rowL).filter fun r => !r.isEmpty
theorem rowsL_nl {p : List UInt8} (l : List UInt8) (h : (10 : UInt8) ∉ p) : rowsL (p ++ 10 :: l) = (if (rowL p).isEmpty then [] else [rowL p]) ++ rowsL l := by
 unfold rowsL; rw [linesL_nl p l h]
 simp only [List.map_cons, List.filter_cons]
 cases (rowL p).isEmpty <;> rfl
theorem rowsL_one {p : List UInt8} (h : (10 : UInt8) ∉ p) : rowsL p = if (rowL p).isEmpty then [] else [rowL p] := by
 unfold rowsL; rw [linesL_one p h]
 simp only [List.map_cons, List.map_nil, List.filter_cons, List.filter_nil]
 cases (rowL p).isEmpty <;> rfl
theorem rowsF_acc : ∀ (n : Nat) (s : ByteArray) (f : Nat) (acc : List (Nat × Nat)), s.size + 1 - f = n → rowsF s f acc = acc ++ rowsF s f [] := by
 intro n
 induction n using Nat.strongRecOn with
 | _ n ih =>
  intro s f acc hn
  by_cases h : f ≤ s.size
  ·have hg := (scan_ge (nlB s) s.size _ f rfl).1
   rw [rowsF_step h, rowsF_step h (acc := [])]
   rw [ih _ (by omega) s (scan (nlB s) s.size f + 1) _ rfl]
   rw [ih _ (by omega) s (scan (nlB s) s.size f + 1) (if headF s f (scan (nlB s) s.size f) < tailF s f (scan (nlB s) s.size f) then [] ++ [(headF s f (scan (nlB s) s.size f), tailF s f (scan (nlB s) s.size f))] else []) rfl]
   split <;> simp
  ·rw [rowsF_end h, rowsF_end h]; simp
theorem line_at {s : ByteArray} {f : Nat} (h : f ≤ s.size) : (10 : UInt8) ∉ seg s.data.toList f (scan (nlB s) s.size f) ∧ f ≤ scan (nlB s) s.size f ∧ scan (nlB s) s.size f ≤ s.size ∧ ((scan (nlB s) s.size f < s.size ∧ s.data.toList.drop f = seg s.data.toList f (scan (nlB s) s.size f) ++ 10 :: s.data.toList.drop (scan (nlB s) s.size f + 1)) ∨ (scan (nlB s) s.size f = s.size ∧ s.data.toList.drop f = seg s.data.toList f (scan (nlB s) s.size f))) := by
 have hl := len_list s
 have hg := scan_ge (nlB s) s.size _ f rfl
 have hsp := scan_spec (nlB s) s.size _ f rfl
 have hk := hg.2 h
 generalize scan (nlB s) s.size f = k at *
 refine ⟨?_, hg.1, hk, ?_⟩
 ·intro hm
  unfold seg at hm
  obtain ⟨j, hj, e⟩ := List.getElem_of_mem hm
  simp only [List.length_take, List.length_drop] at hj
  rw [List.getElem_take, List.getElem_drop] at e
  have h0 := hsp.1 (f + j) (by omega) (by omega)
  unfold nlB at h0
  rw [bt_seg (by omega), e] at h0
  exact absurd h0 (by decide)
 ·by_cases hlt : k < s.size
  ·refine .inl ⟨hlt, ?_⟩
   have h0 := hsp.2 hlt
   unfold nlB at h0
   rw [bt_seg (by omega)] at h0
   have e10 : s.data.toList[k]'(by omega) = 10 := by
    apply UInt8.toNat_inj.1; have h1 := beq_iff_eq.1 h0; exact Int.ofNat.inj h1
   have e : s.data.toList.drop f = seg s.data.toList f (k) ++ s.data.toList.drop (k) := by
    unfold seg
    rw [show s.data.toList.drop (k) = (s.data.toList.drop f).drop (k - f) by rw [List.drop_drop]; congr 1; omega, List.take_append_drop]
   rw [e, List.drop_eq_getElem_cons (by omega), e10]
  ·refine .inr ⟨by omega, ?_⟩
   unfold seg
   rw [List.take_of_length_le (by rw [List.length_drop]; omega)]
theorem row_cond {s : ByteArray} {a b : Nat} (ha : a ≤ b) (hb : b ≤ s.data.toList.length) : headF s a b < tailF s a b ↔ (rowL (seg s.data.toList a b)).isEmpty = false := by
 have h := (row_seg ha hb).1
 have h2 := tailF_bd s a b ha
 rw [← h, List.isEmpty_eq_false_iff]
 constructor
 ·intro hlt e
  have := seg_len (L := s.data.toList) h2.1 (by omega)
  rw [e] at this; simp at this; omega
 ·intro hne
  rcases Nat.lt_or_ge (headF s a b) (tailF s a b) with h3 | h3
  ·exact h3
  ·exfalso; apply hne
   have e : headF s a b = tailF s a b := by omega
   rw [e, seg_nil]
theorem rows_texts : ∀ (n : Nat) (s : ByteArray) (f : Nat), s.size + 1 - f = n → f ≤ s.size → (rowsF s f []).map (fun r => (s.extract r.1 r.2).data.toList) = rowsL (s.data.toList.drop f) := by
 intro n
 induction n using Nat.strongRecOn with
 | _ n ih =>
  intro s f hn h
  have hl := len_list s
  obtain ⟨h10, h1, h2, h3⟩ := line_at h
  have hr := row_seg (s := s) h1 (by omega)
  have hcd := row_cond (s := s) h1 (by omega)
  rw [rowsF_step h, rowsF_acc _ s _ _ rfl]
  generalize scan (nlB s) s.size f = k at *
  rw [List.map_append]
  have e1 : (if headF s f k < tailF s f k then ([] : List (Nat × Nat)) ++ [(headF s f k, tailF s f k)] else []).map (fun r => (s.extract r.1 r.2).data.toList) = if (rowL (seg s.data.toList f k)).isEmpty then [] else [rowL (seg s.data.toList f k)] := by
   by_cases hc : headF s f k < tailF s f k
   ·rw [if_pos hc, hcd.1 hc, if_neg (by simp)]
    simp only [List.nil_append, List.map_cons, List.map_nil]
    rw [extract_seg, hr.1]
   ·rw [if_neg hc]
    cases hq : (rowL (seg s.data.toList f k)).isEmpty
    ·exact absurd (hcd.2 hq) hc
    ·rfl
  rw [e1]
  rcases h3 with ⟨hk, e⟩ | ⟨hk, e⟩
  ·rw [e, rowsL_nl _ h10, ih _ (by omega) s (k + 1) rfl (by omega)]
  ·rw [e, rowsL_one h10, rowsF_end (by omega)]; simp
theorem rows_all (s : ByteArray) : (rowsF s 0 []).map (fun r => (s.extract r.1 r.2).data.toList) = rowsL s.data.toList := by
 have h := rows_texts _ s 0 rfl (Nat.zero_le _)
 simpa using h
end
section
open Go.RowKit
theorem checkZ_iff (s : ByteArray) : (checkZ s).1 = 0 ↔ s.size ≤ 16384 ∧ ∀ c ∈ s.data.toList, okB (c.toNat : Int) = true := by
 have hl := len_list s
 unfold checkZ
 by_cases h : 16384 < s.size
 ·rw [if_pos h]; constructor
  ·intro e; exact absurd e (by show ¬ (2 : Int) = 0; decide)
  ·intro e; omega
 ·rw [if_neg h]
  have hsp := scan_spec (badB s) s.size _ 0 rfl
  have hg := (scan_ge (badB s) s.size _ 0 rfl).2 (Nat.zero_le _)
  by_cases hb : scan (badB s) s.size 0 < s.size
  ·rw [if_pos hb]
   constructor
   ·intro e; exact absurd e (by show ¬ (100 : Int) = 0; decide)
   ·intro e
    have h2 : (!okB (bt s (scan (badB s) s.size 0))) = true := hsp.2 hb
    rw [bt_seg (by omega), e.2 _ (List.getElem_mem _)] at h2
    exact absurd h2 (by decide)
  ·rw [if_neg hb]
   refine ⟨fun _ => ⟨by omega, fun c hc => ?_⟩, fun _ => rfl⟩
   obtain ⟨k, hk, e⟩ := List.getElem_of_mem hc
   have h1 : (!okB (bt s k)) = false := hsp.1 k (Nat.zero_le _) (by omega)
   rw [bt_seg hk, e] at h1
   simpa using h1
theorem litA_ok {s : ByteArray} (h : (litA s).2.1 = 0) : (checkZ s).1 = 0 ∧ litA s = rowsA s src0 (rowsF s 0 []) := by
 unfold litA at h ⊢
 by_cases hc : (checkZ s).1 = 0
 ·exact ⟨hc, by rw [if_pos hc]⟩
 ·rw [if_neg hc] at h; exact absurd h hc
def runA (s : ByteArray) : SrcA → List (Nat × Nat) → Option SrcA
 | x, [] => some x
 | x, r :: l => if (rowA x (s.extract r.1 r.2) r.1).2.1 = 0 then runA s (rowA x (s.extract r.1 r.2) r.1).1 l else none
theorem rowsA_run (s : ByteArray) : ∀ (l : List (Nat × Nat)) (x y : SrcA), runA s x l = some y → rowsA s x l = if y.after = 4 then (y, 0, 0) else (src0, 110, (s.size : Int))
 | [], x, y, h => by
  have e : x = y := by simpa [runA] using h
  subst e; rfl
 | r :: l, x, y, h => by
  rw [runA] at h
  split at h
  ·rename_i hc
   rw [rowsA, if_pos hc]; exact rowsA_run s l _ y h
  ·cases h
end
section
open Go.RowKit
abbrev Pc := Nat × List UInt8
def flat (ps : List Pc) : List UInt8 := ps.flatMap fun p => p.2
theorem flat_cons (p : Pc) (ps : List Pc) : flat (p :: ps) = p.2 ++ flat ps := rfl
theorem flat_append (a b : List Pc) : flat (a ++ b) = flat a ++ flat b := by simp [flat]
def letU (c : UInt8) : Bool := letterB (c.toNat : Int)
def startsOK : List UInt8 → Bool
 | [] => true
 | c :: _ => !letU c
def signL : List (List UInt8) := [[61], [91], [93], [40], [41], [58], [44], [126], [47, 92], [92, 47]]
def pcOK (p : Pc) : Prop :=
 (p.1 = 0 ∧ p.2 = [32]) ∨ (p.1 = 3 ∧ p.2 ∈ signL) ∨
 (p.1 = 1 ∧ p.2.all letU = true ∧ p.2.length ≤ 24 ∧ ∃ c l, p.2 = c :: l ∧ digitB (c.toNat : Int) = false) ∨
 (p.1 = 2 ∧ p.2.all letU = true ∧ p.2.length ≤ 24 ∧ (∃ c l, p.2 = c :: l ∧ digitB (c.toNat : Int) = true) ∧ (parseL p.2).2 = 0)
def okPs : List Pc → Prop
 | [] => True
 | p :: ps => pcOK p ∧ (p.1 = 1 ∨ p.1 = 2 → startsOK (flat ps) = true) ∧ okPs ps
def marks : Nat → List Pc → List (Nat × Nat × Nat)
 | _, [] => []
 | i, p :: ps => (if p.1 = 0 then [] else [(p.1, i, i + p.2.length)]) ++ marks (i + p.2.length) ps
theorem bt_ba (L : List UInt8) (k : Nat) (h : k < L.length) : bt (ba L) k = (L[k].toNat : Int) := by
 rw [bt_eq (by rw [ba_size]; exact h)]; rfl
theorem bt_at (A : List UInt8) (c : UInt8) (B : List UInt8) : bt (ba (A ++ c :: B)) A.length = (c.toNat : Int) := by
 rw [bt_ba _ _ (by simp)]; simp
theorem bt_at1 (A : List UInt8) (c d : UInt8) (B : List UInt8) : bt (ba (A ++ c :: d :: B)) (A.length + 1) = (d.toNat : Int) := by
 rw [bt_ba _ _ (by simp)]; simp
theorem ba_extract (A B C : List UInt8) : (ba (A ++ (B ++ C))).extract A.length (A.length + B.length) = ba B := by
 apply ba_of
 unfold ba
 simp
theorem ba_extract_end (A B : List UInt8) : (ba (A ++ B)).extract A.length (ba (A ++ B)).size = ba B := by
 rw [ba_size, List.length_append]
 have := ba_extract A B []
 simpa using this
theorem sign_one (A : List UInt8) (c : UInt8) (B : List UInt8) (h2 : ¬ c = 47 ∧ ¬ c = 92) : signB ((ba (A ++ c :: B)).extract A.length (ba (A ++ c :: B)).size) = if sign1 (c.toNat : Int) = true then 1 else 0 := by
 rw [ba_extract_end]
 have e0 : bt (ba (c :: B)) 0 = (c.toNat : Int) := bt_at [] c B
 unfold signB
 rw [if_neg, e0]
 rintro ⟨_, h⟩
 unfold sign2 at h
 rw [e0] at h
 have a : ¬ (c.toNat : Int) = 47 := fun e => h2.1 (by have : c.toNat = 47 := by omega
                                                      exact UInt8.toNat_inj.1 this)
 have b : ¬ (c.toNat : Int) = 92 := fun e => h2.2 (by have : c.toNat = 92 := by omega
                                                      exact UInt8.toNat_inj.1 this)
 rw [beq_eq_false_iff_ne.2 a, beq_eq_false_iff_ne.2 b] at h
 simp at h
theorem sign_two (A : List UInt8) (c d : UInt8) (B : List UInt8) (h2 : (c = 47 ∧ d = 92) ∨ (c = 92 ∧ d = 47)) : signB ((ba (A ++ c :: d :: B)).extract A.length (ba (A ++ c :: d :: B)).size) = 2 := by
 rw [ba_extract_end]
 have e0 : bt (ba (c :: d :: B)) 0 = (c.toNat : Int) := bt_at [] c (d :: B)
 have e1 : bt (ba (c :: d :: B)) 1 = (d.toNat : Int) := bt_at1 [] c d B
 unfold signB
 rw [if_pos]
 refine ⟨by rw [ba_size]; simp, ?_⟩
 unfold sign2
 rw [e0, e1]
 rcases h2 with ⟨rfl, rfl⟩ | ⟨rfl, rfl⟩ <;> decide
theorem scan_run (p : Nat → Bool) (to : Nat) : ∀ (n i : Nat), (∀ j, j < n → p (i + j) = false) → i + n ≤ to → (i + n = to ∨ p (i + n) = true) → scan p to i = i + n
 | 0, i, _, h2, h3 => by
  by_cases h : i < to
  ·rw [scan_hit h (by rcases h3 with h3 | h3
                      ·omega
                      ·simpa using h3)]; rfl
  ·rw [scan_stop h]; rfl
 | n + 1, i, h1, h2, h3 => by
  rw [scan_miss (by omega) (by simpa using h1 0 (by omega)), scan_run p to n (i + 1) (fun j hj => by have := h1 (j + 1) (by omega); rwa [show i + 1 + j = i + (j + 1) by omega]) (by omega) (by rw [show i + 1 + n = i + (n + 1) by omega]; exact h3)]
  omega
theorem wordE_run (A B C : List UInt8) (hB : B.all letU = true) (hC : startsOK C = true) : wordE (ba (A ++ (B ++ C))) A.length = A.length + B.length := by
 unfold wordE
 have hs : (ba (A ++ (B ++ C))).size = A.length + (B.length + C.length) := by rw [ba_size]; simp
 refine scan_run _ _ _ _ (fun j hj => ?_) (by omega) ?_
 ·unfold nonLet
  rw [bt_ba _ _ (by simp; omega)]
  have : (A ++ (B ++ C))[A.length + j]'(by simp; omega) = B[j] := by
   rw [List.getElem_append_right (by omega)]
   simp only [Nat.add_sub_cancel_left]
   rw [List.getElem_append_left hj]
  rw [this]
  have := List.all_eq_true.1 hB B[j] (List.getElem_mem hj)
  unfold letU at this
  rw [this]; rfl
 ·match C, hC with
  | [], _ => exact .inl (by rw [hs]; simp)
  | c :: C, hC =>
   refine .inr ?_
   unfold nonLet
   have := bt_at (A ++ B) c C
   rw [List.append_assoc, List.length_append] at this
   rw [this]
   unfold startsOK letU at hC
   exact hC
theorem letU_not {c : UInt8} (h : letU c = true) : blankB (c.toNat : Int) = false ∧ sign1 (c.toNat : Int) = false ∧ ¬ c = 47 ∧ ¬ c = 92 := by
 have : ∀ n, n < 256 → letU (UInt8.ofNat n) = true → blankB ((UInt8.ofNat n).toNat : Int) = false ∧ sign1 ((UInt8.ofNat n).toNat : Int) = false ∧ ¬ UInt8.ofNat n = 47 ∧ ¬ UInt8.ofNat n = 92 := by decide +kernel
 have h2 := this c.toNat c.toNat_lt
 rw [UInt8.ofNat_toNat] at h2
 exact h2 h
theorem step_piece (A : List UInt8) (p : Pc) (C : List UInt8) (hp : pcOK p) (hC : p.1 = 1 ∨ p.1 = 2 → startsOK C = true) : stepF (ba (A ++ (p.2 ++ C))) A.length = (p.1, A.length + p.2.length, 0) ∧ 0 < p.2.length := by
 obtain ⟨k, b⟩ := p
 rcases hp with ⟨h1, h2⟩ | ⟨h1, h2⟩ | ⟨h1, h2, h3, c, l, h4, h5⟩ | ⟨h1, h2, h3, ⟨c, l, h4, h5⟩, h6⟩
 ·simp only at h1 h2; subst h1 h2
  refine ⟨?_, by simp⟩
  unfold stepF
  rw [if_pos]
  ·rfl
  ·show blankB (bt (ba (A ++ 32 :: C)) A.length) = true
   rw [bt_at]; rfl
 ·simp only at h1 h2; subst h1
  unfold signL at h2
  have one : ∀ c : UInt8, sign1 (c.toNat : Int) = true → blankB (c.toNat : Int) = false → (¬ c = 47 ∧ ¬ c = 92) → stepF (ba (A ++ ([c] ++ C))) A.length = (3, A.length + 1, 0) := fun c h1 h2 h3 => by
   have e := sign_one A c C h3
   rw [if_pos h1] at e
   have e2 : signB ((ba (A ++ ([c] ++ C))).extract A.length (ba (A ++ ([c] ++ C))).size) = 1 := e
   rw [stepF_sign (by rw [show A ++ ([c] ++ C) = A ++ c :: C from rfl, bt_at]; exact h2) (by rw [e2]; decide), e2]
  have two : ∀ c d : UInt8, blankB (c.toNat : Int) = false → ((c = 47 ∧ d = 92) ∨ (c = 92 ∧ d = 47)) → stepF (ba (A ++ ([c, d] ++ C))) A.length = (3, A.length + 2, 0) := fun c d h2 h3 => by
   have e2 : signB ((ba (A ++ ([c, d] ++ C))).extract A.length (ba (A ++ ([c, d] ++ C))).size) = 2 := sign_two A c d C h3
   rw [stepF_sign (by rw [show A ++ ([c, d] ++ C) = A ++ c :: d :: C from rfl, bt_at]; exact h2) (by rw [e2]; decide), e2]
  simp only [List.mem_cons, List.not_mem_nil, or_false] at h2
  rcases h2 with rfl | rfl | rfl | rfl | rfl | rfl | rfl | rfl | rfl | rfl
  ·exact ⟨one _ rfl rfl (by decide), by simp⟩
  ·exact ⟨one _ rfl rfl (by decide), by simp⟩
  ·exact ⟨one _ rfl rfl (by decide), by simp⟩
  ·exact ⟨one _ rfl rfl (by decide), by simp⟩
  ·exact ⟨one _ rfl rfl (by decide), by simp⟩
  ·exact ⟨one _ rfl rfl (by decide), by simp⟩
  ·exact ⟨one _ rfl rfl (by decide), by simp⟩
  ·exact ⟨one _ rfl rfl (by decide), by simp⟩
  ·exact ⟨two _ _ rfl (.inl ⟨rfl, rfl⟩), by simp⟩
  ·exact ⟨two _ _ rfl (.inr ⟨rfl, rfl⟩), by simp⟩
 ·simp only at h1 h2 h3 h4; subst h1 h4
  have hc : letU c = true := List.all_eq_true.1 h2 c (by simp)
  obtain ⟨q1, q2, q3⟩ := letU_not hc
  have hb : bt (ba (A ++ (c :: l ++ C))) A.length = (c.toNat : Int) := bt_at A c (l ++ C)
  have hs : signB ((ba (A ++ (c :: l ++ C))).extract A.length (ba (A ++ (c :: l ++ C))).size) = 0 := by
   have := sign_one A c (l ++ C) q3
   rwa [if_neg (by simp [q2])] at this
  have hw := wordE_run A (c :: l) C h2 (hC (.inl rfl))
  refine ⟨?_, by simp⟩
  rw [stepF_word (by rw [hb]; exact q1) hs (by rw [hb]; exact hc) (by rw [hw]; simp at h3 ⊢; omega) (by rw [hb]; exact h5), hw]
 ·simp only at h1 h2 h3 h4 h6; subst h1 h4
  have hc : letU c = true := List.all_eq_true.1 h2 c (by simp)
  obtain ⟨q1, q2, q3⟩ := letU_not hc
  have hb : bt (ba (A ++ (c :: l ++ C))) A.length = (c.toNat : Int) := bt_at A c (l ++ C)
  have hs : signB ((ba (A ++ (c :: l ++ C))).extract A.length (ba (A ++ (c :: l ++ C))).size) = 0 := by
   have := sign_one A c (l ++ C) q3
   rwa [if_neg (by simp [q2])] at this
  have hw := wordE_run A (c :: l) C h2 (hC (.inr rfl))
  refine ⟨?_, by simp⟩
  rw [stepF_num (by rw [hb]; exact q1) hs (by rw [hb]; exact hc) (by rw [hw]; simp at h3 ⊢; omega) (by rw [hb]; exact h5) (by unfold numE; rw [hw, ba_extract]; exact h6), hw]
theorem lex_flat : ∀ (ps : List Pc) (A : List UInt8) (acc : List (Nat × Nat × Nat)), okPs ps →
  toksF (ba (A ++ flat ps)) A.length acc = (acc ++ marks A.length ps ++ [(4, (A ++ flat ps).length, (A ++ flat ps).length)], 0, (A ++ flat ps).length)
 | [], A, acc, _ => by
  rw [toksF_end (by rw [ba_size]; simp [flat]), ba_size]
  simp [marks]
 | p :: ps, A, acc, h => by
  obtain ⟨h1, h2, h3⟩ := h
  obtain ⟨hst, hl⟩ := step_piece A p (flat ps) h1 h2
  have ih := lex_flat ps (A ++ p.2) (acc ++ (if p.1 = 0 then [] else [(p.1, A.length, A.length + p.2.length)])) h3
  rw [flat_cons]
  have e : A ++ (p.2 ++ flat ps) = A ++ p.2 ++ flat ps := by simp
  have hlt : A.length < (ba (A ++ (p.2 ++ flat ps))).size := by rw [ba_size]; simp; omega
  have step : toksF (ba (A ++ (p.2 ++ flat ps))) A.length acc = toksF (ba (A ++ (p.2 ++ flat ps))) (A.length + p.2.length) (acc ++ (if p.1 = 0 then [] else [(p.1, A.length, A.length + p.2.length)])) := by
   rw [toksF, dif_pos hlt, hst]
   have h9 : ¬ p.1 = 9 := by rcases h1 with h | h | h | h <;> omega
   simp only
   rw [if_neg h9, dif_pos (by omega)]
   by_cases h0 : p.1 = 0
   ·rw [if_pos h0, if_pos h0, List.append_nil]
   ·rw [if_neg h0, if_neg h0]
  rw [step]
  rw [List.length_append] at ih
  rw [e, ih, marks]
  simp [List.append_assoc]
def kt (t : Tk) : Int × ByteArray := (t.1, t.2.1)
def kp (p : Pc) : Int × ByteArray := ((p.1 : Int), ba p.2)
theorem marks_kt : ∀ (ps : List Pc) (A : List UInt8) (at_ : Nat), (tkOf (ba (A ++ flat ps)) at_ (marks A.length ps)).map kt = (ps.filter fun p => decide (¬ p.1 = 0)).map kp
 | [], _, _ => rfl
 | p :: ps, A, at_ => by
  have ih := marks_kt ps (A ++ p.2) at_
  rw [List.length_append] at ih
  have e : A ++ flat (p :: ps) = A ++ p.2 ++ flat ps := by rw [flat_cons]; simp
  rw [marks, List.filter_cons]
  by_cases h0 : p.1 = 0
  ·rw [if_pos h0, if_neg (by simp [h0]), e]
   simpa using ih
  ·rw [if_neg h0, if_pos (by simp [h0]), List.map_cons, ← ih, e]
   have hx := ba_extract A p.2 (flat ps)
   rw [← List.append_assoc] at hx
   simp only [tkOf, List.map_append, List.map_cons, List.map_nil, kt, kp, List.singleton_append, hx]
theorem lex_pieces (ps : List Pc) (h : okPs ps) : ∃ K, toksF (ba (flat ps)) 0 [] = (K, 0, (flat ps).length) ∧ (tkOf (ba (flat ps)) 0 K).map kt = (ps.filter fun p => decide (¬ p.1 = 0)).map kp ++ [(4, ByteArray.empty)] := by
 refine ⟨_, lex_flat ps [] [] h, ?_⟩
 have := marks_kt ps [] 0
 simp only [List.nil_append, List.length_nil] at this ⊢
 rw [show tkOf (ba (flat ps)) 0 (marks 0 ps ++ [(4, (flat ps).length, (flat ps).length)]) = tkOf (ba (flat ps)) 0 (marks 0 ps) ++ tkOf (ba (flat ps)) 0 [(4, (flat ps).length, (flat ps).length)] by simp [tkOf], List.map_append, this]
 congr 1
 simp [tkOf, kt]
end
end Go.Proofs.YtmnojnopejhebaaGreat
