/- Slices of bytes that the call itself made, and their texts. -/
import Derived.Test.YteepoohcdmjmhaaBase
import Derived.Test.YteepoohcdmjmhaaTextPlain
namespace Go.Proofs.Yteepoohcdmjmhaa
open Go.RowKit

def bytesV (l : List UInt8) : List Value := l.map (fun c => Value.int .u8 (c.toNat : Int))
theorem bytesV_snoc (l : List UInt8) (c : UInt8) : bytesV (l ++ [c]) = bytesV l ++ [Value.int .u8 (c.toNat : Int)] := by simp [bytesV]
theorem bytesV_length (l : List UInt8) : (bytesV l).length = l.length := by simp [bytesV]

theorem push_fold (l : List UInt8) : ∀ s : ByteArray, (l.map (fun c => (c.toNat : Int))).foldl (fun r n => r.push (UInt8.ofNat n.toNat)) s = ba (s.data.toList ++ l) := by
  induction l with
  | nil => intro s; rw [List.append_nil]; rfl
  | cons c l ih =>
    intro s
    rw [List.map_cons, List.foldl_cons, ih]
    congr 1
    rw [Int.toNat_natCast, UInt8.ofNat_toNat, ByteArray.data_push, Array.toList_push]
    simp

/-- string(b), b a slice of bytes that can be read. -/
theorem conv_read {P : Program} {w : World} {src dst e : TypeId} (hs : P.underlying src = some (.slice e)) (he : P.underlying e = some (.int .u8)) (hd : P.underlying dst = some .string)
    {v : Value} {n : Nat} {l : List UInt8} (hr : readRow w v n (bytesV l)) : (convert src dst v).run P w = .ok (.string (ba l)) w := by
  obtain ⟨hlen, ⟨rfl, rfl⟩ | ⟨g, off, cap, rfl, _, _, hc⟩⟩ := hr
  · rw [bytesV_length] at hlen
    have hl : l = [] := List.eq_nil_of_length_eq_zero (by omega)
    subst hl
    rw [run_convert_bytes_string w src dst e none 0 0 hs he hd]
    rfl
  · rw [bytesV_length] at hlen
    rw [run_convert_bytes_string w src dst e _ n cap hs he hd]
    have hload : (loadCells ⟨g, off, none⟩ n).run P w = .ok ((l.map (fun c => (c.toNat : Int))).map (Value.int .u8)).toArray w := by
      have := run_loadCells_list (P := P) (w := w) ⟨g, off, none⟩ (bytesV l) (fun j u hj => by
        have hjl : j < (bytesV l).length := by
          rcases Nat.lt_or_ge j (bytesV l).length with h | h
          · exact h
          · rw [List.getElem?_eq_none h] at hj; cases hj
        rw [bytesV_length] at hjl
        rw [← hj, ← hc j (by omega), addr_add])
      rw [bytesV_length, hlen] at this
      rw [this, bytesV, List.map_map]; rfl
    rw [run_bytesToString w _ n cap _ hload, push_fold]
    rfl
theorem conv_own {P : Program} {w : World} {src dst e : TypeId} (hs : P.underlying src = some (.slice e)) (he : P.underlying e = some (.int .u8)) (hd : P.underlying dst = some .string)
    {base : Nat} {v : Value} {n : Nat} {l : List UInt8} (hown : w.ownsRow base e 1 v n (bytesV l)) : (convert src dst v).run P w = .ok (.string (ba l)) w :=
  conv_read hs he hd (readRow_own hown)

end Go.Proofs.Yteepoohcdmjmhaa
