/- Slices of bytes of a call's own: made, appended to, and turned into a string; no function of the program is named. -/
import Derived.Test.YtlkdkidpbjpkhaaOwnS
import Derived.Laws.IdiomStrings
namespace Go.Proofs.Ytlkdkidpbjpkhaa
open Go.RowKit

/-- A slice of bytes of the call's own. -/
def ucells (bs : List UInt8) : List Value := bs.map fun c => .int .u8 (c.toNat : Int)
theorem ucells_snoc (bs : List UInt8) (c : UInt8) : ucells (bs ++ [c]) = ucells bs ++ [.int .u8 (c.toNat : Int)] := by simp [ucells]
def OwnU (w : World) (base : Nat) (v : Value) (bs : List UInt8) : Prop := w.ownsRow base 5 1 v bs.length (ucells bs)
theorem info_u8 : (Try.prog.info? 5).map (fun i => (i.zero, i.size, i.bytes)) = some (some (.int .u8 0), 1, 1) := by kernel_rfl
theorem ownU_empty (w : World) (base : Nat) (h : base ≤ w.heap.size) : OwnU (w.alloc (.cells #[] 5)) base (.slice (some ⟨w.heap.size, 0, none⟩) 0 0) [] :=
  World.ownsRow_made w #[] 0 h (Nat.zero_le _) rfl
theorem OwnU.snoc {w : World} {base n : Nat} {v : Value} {bs : List UInt8} {c : UInt8} (h : w.ownsRow base 5 1 v n (ucells bs ++ [.int .u8 (c.toNat : Int)])) (hn : n = bs.length + 1) : OwnU w base v (bs ++ [c]) := by
  unfold OwnU; subst hn; rw [ucells_snoc]; simpa using h
theorem OwnU.shape {w : World} {base : Nat} {v : Value} {bs : List UInt8} (h : OwnU w base v bs) : ∃ a c, v = .slice a bs.length c := by
  rcases h.2 with ⟨rfl, h0⟩ | ⟨g, cap, _, rfl, _⟩
  · exact ⟨none, 0, by rw [h0]⟩
  · exact ⟨_, _, rfl⟩
theorem OwnU.cells {w : World} {base n c : Nat} {a : Option Addr} {bs : List UInt8} (h : OwnU w base (.slice a n c) bs) (h0 : 0 < bs.length) : ∃ g, a = some ⟨g, 0, none⟩ ∧ g < w.heap.size ∧ base ≤ g ∧ n = bs.length ∧ ∀ j (hj : j < bs.length), w.cell? ⟨g, j, none⟩ = some (.int .u8 (bs[j].toNat : Int)) := by
  rcases h.2 with ⟨_, hn⟩ | ⟨g, cap, cur, hv, hb, hh, hnc, hm, hs, ht⟩
  · omega
  · injection hv with h1 h2 h3
    refine ⟨g, h1, blk_lt hh, hb, h2, fun j hj => ?_⟩
    rw [cellOf hh]
    have e : (cur.toList.take (bs.length * 1))[j]? = some (.int .u8 (bs[j].toNat : Int)) := by rw [ht]; simp [ucells, hj]
    rw [List.getElem?_take_of_lt (by omega)] at e
    simpa using e
/-- 'string(b)' of a slice of bytes of the call's own. -/
theorem OwnU.text {w : World} {base n c : Nat} {a : Option Addr} {bs : List UInt8} (h : OwnU w base (.slice a n c) bs) (h0 : 0 < bs.length) :
    (convert 40 9 (.slice a n c)).run Try.prog w = .ok (.string ⟨bs.toArray⟩) w := by
  obtain ⟨g, rfl, _, _, rfl, hc⟩ := h.cells h0
  exact run_convert_bytes_back w 40 9 5 ⟨g, 0, none⟩ c bs Try.underlying40 Try.underlying5 Try.underlying9 (fun j hj => by
    have := hc j hj
    by_cases e : j = 0
    · subst e; simpa [Addr.add] using this
    · simpa [Addr.add, e] using this)
end Go.Proofs.Ytlkdkidpbjpkhaa
