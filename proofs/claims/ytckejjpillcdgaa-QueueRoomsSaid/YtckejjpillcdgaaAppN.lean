/- append(s, x...): onto a row of the call's own, or a full one; the source can be read. -/
import Derived.Test.YtckejjpillcdgaaBase
namespace Go.Proofs.Ytckejjpillcdgaa
open Go.RowKit

theorem appN {P : Program} {ops : Array Oper} {rest : List Oper} {o : Oper} {a : Act} {Q : Exit → Act → World → Prop} {wr : World} (hgd : o.guard = none) (s x : Operand) (t : TypeId)
    (ho : o.op = .call { callee := .builtin .append, args := #[s, x], argTypes := #[t, t] })
    (base : Nat) (e : TypeId) (z : Value) (bytes : Nat) (hel : El P t e z 1 bytes) (hzs : z.cells.size = 1)
    (v : Value) (n : Nat) (xs : List Value) (hs : a.eval s = v) (hown : appRow wr base e v n xs)
    (g off m c : Nat) (news : List Value) (hx : a.eval x = .slice (some ⟨g, off, none⟩) m c) (hm : 0 < m) (hl : news.length = m) (hnews : ∀ j, j < m → wr.cell? ⟨g, off + j, none⟩ = news[j]?) (h1 : ∀ u ∈ news, u.oneCell' = true)
    (hn : n + m ≤ maxLen) (hby : (n + m) * bytes ≤ 140737488355328) (hbase : base ≤ wr.heap.size)
    (h : ∀ v' w', w'.ownsRow base e 1 v' (n + m) (xs ++ news) → Below base wr w' → wpList P ops Q rest (a.put o.dst v') w') :
    wpList P ops Q (o :: rest) a wr := by
  have hc : ∀ j u, news[j]? = some u → wr.cell? ((⟨g, off, none⟩ : Addr).add j) = some u := by
    intro j u hj
    have hjm : j < m := by
      rcases Nat.lt_or_ge j news.length with h | h
      · omega
      · rw [List.getElem?_eq_none h] at hj; cases hj
    rw [addr_add]; exact (hnews j hjm).trans hj
  obtain ⟨ht, hinfo⟩ := hel
  obtain ⟨i, hi, hz0, hz1, hz2⟩ := info_parts hinfo
  rcases hown with hown | ⟨g2, off2, rfl, hm2, hl2, hc2⟩
  · refine wpList_append_own wr hgd s x t ho base e i z 1 bytes ht hi hz0 hz1 hz2 hzs (by decide) v n xs hs hown ⟨g, off, none⟩ m c news hx (by omega) hc h1 hn hby hbase ?_
    intro v' w' hown' hg _
    exact h v' w' hown' ((Below.refl base wr).grown hg hbase (fun k hk => (hown.lt k hk).1))
  · refine wpList_append_grows wr hgd s x t ho e i z 1 bytes ht hi hz0 hz1 hz2 hzs (by decide) (some ⟨g2, off2, none⟩) n n xs hs (fun h => by cases h) (by omega) ?_ ⟨g, off, none⟩ m c news hx (by omega) hc h1 (by omega) hn hby ?_
    · intro b hb j u hj
      cases hb
      have hjn : j < n := by
        rcases Nat.lt_or_ge j xs.length with h | h
        · omega
        · rw [List.getElem?_eq_none h] at hj; cases hj
      rw [addr_add]; exact (hc2 j hjn).trans hj
    · intro v' w' hown' hg
      exact h v' w' (ownsRow_mono hown' hbase) ((Below.refl base wr).grown hg hbase (fun k hk => by cases hk))
end Go.Proofs.Ytckejjpillcdgaa
