/- Contracts of the decimal texts, program and reference (Decimal, l01Dec): a number from 0 on in its decimal digits; conditions: the number is from 0 on; for the program's the library's table of powers of ten. -/
import Derived.Test.YtgnalhnbdpigdaaDoorNum
import Derived.Test.YtgnalhnbdpigdaaDoorShelfD
import Derived.Laws.IdiomStrings
import Derived.Laws.AppendOwn
import Derived.Lib.ItoaMem
import Derived.Lib.ItoaLen
namespace Go.Proofs.YtgnalhnbdpigdaaDoor
set_option linter.unusedVariables false
open Go.RowKit

/-- The table of powers of ten, as the library's text lays it. -/
def Tab (w : World) : Prop := Lib.TabIs Tryd.prog w "internal/strconv.uint64pow10" .u64 Lib.pow10Tab
theorem Tab.below {w w' : World} (h : Tab w) (hb : Below w.heap.size w w') : Tab w' := by
  unfold Tab Lib.TabIs World.var? at h ⊢
  rcases hg : Tryd.prog.globalNamed "internal/strconv.uint64pow10" with _ | g
  · rw [hg] at h; cases h
  · rw [hg] at h
    simp only [Option.bind_some] at h ⊢
    have hlt : g < w.heap.size := by
      rcases Nat.lt_or_ge g w.heap.size with h1 | h1
      · exact h1
      · rw [Array.getElem?_eq_none h1] at h; cases h
    rw [hb.block g hlt]
    exact h
theorem below_grow (w : World) (os : Array Obj) : Below w.heap.size w (Sort.grow w os) :=
  ⟨rfl, rfl, rfl, by simp [Sort.grow], fun k hk => by simp [Sort.grow, Array.getElem?_append_left hk]⟩
def decS (n : Nat) : ByteArray := ⟨(Lib.decDigits n).toArray⟩
theorem decS_size (n : Nat) : (decS n).size = (Lib.decDigits n).length := by simp [decS, ByteArray.size]
theorem dec_len (n : Nat) (h : n ≤ 1000000000) : (Lib.decDigits n).length ≤ 21 := by
  have := Lib.itoa_length_le (n : Int) (by omega) (by omega)
  rwa [Lib.itoa_nonneg] at this
set_option maxHeartbeats 1000000 in
theorem decimal_any (n : Nat) (w : World) (h : n ≤ 1000000000) (ht : Tab w) :
    Calls Tryd.prog 36 #[.int .i64 (n : Int)] w fun e w' => e = .returned (.string (decS n)) ∧ Below w.heap.size w w' := by
  have HF := Lib.hid (formatInt_any (n : Int) (by omega) (by omega) w ht)
  rw [Lib.itoa_nonneg] at HF
  go_enter Tryd.func36, Tryd.ntmps36
  go_wp2_with fail
  refine HF.out.mono ?_
  rintro e w1 ⟨rfl, k, os, rfl⟩
  have hb : Below w.heap.size w (Sort.grow (w.drewN k) os) := (below_drewN (Below.refl _ _) k).trans (by exact below_grow (w.drewN k) os)
  go_wp2
  go_ret
  exact ⟨rfl, hb⟩
/-! ### Slices of bytes of the call's own -/
def dcells (bs : List UInt8) : List Value := bs.map fun c => .int .u8 (c.toNat : Int)
def OwnD (w : World) (base : Nat) (v : Value) (bs : List UInt8) : Prop := w.ownsRow base 5 1 v bs.length (dcells bs)
theorem info_d8 : (Tryd.prog.info? 5).map (fun i => (i.zero, i.size, i.bytes)) = some (some (.int .u8 0), 1, 1) := by kernel_rfl
theorem ownD_empty (w : World) (base : Nat) (h : base ≤ w.heap.size) : OwnD (w.alloc (.cells #[] 5)) base (.slice (some ⟨w.heap.size, 0, none⟩) 0 0) [] :=
  World.ownsRow_made w #[] 0 h (Nat.zero_le _) rfl
theorem OwnD.shape {w : World} {base : Nat} {v : Value} {bs : List UInt8} (h : OwnD w base v bs) : ∃ a c, v = .slice a bs.length c := by
  rcases h.2 with ⟨rfl, h0⟩ | ⟨g, cap, _, rfl, _⟩
  · exact ⟨none, 0, by rw [h0]⟩
  · exact ⟨_, _, rfl⟩
theorem OwnD.cells {w : World} {base n c : Nat} {a : Option Addr} {bs : List UInt8} (h : OwnD w base (.slice a n c) bs) (h0 : 0 < bs.length) : ∃ g, a = some ⟨g, 0, none⟩ ∧ g < w.heap.size ∧ base ≤ g ∧ n = bs.length ∧ ∀ j (hj : j < bs.length), w.cell? ⟨g, j, none⟩ = some (.int .u8 (bs[j].toNat : Int)) := by
  rcases h.2 with ⟨_, hn⟩ | ⟨g, cap, cur, hv, hb, hh, hnc, hm, hs, ht⟩
  · omega
  · injection hv with h1 h2 h3
    refine ⟨g, h1, blk_lt hh, hb, h2, fun j hj => ?_⟩
    rw [cellOf hh]
    have e : (cur.toList.take (bs.length * 1))[j]? = some (.int .u8 (bs[j].toNat : Int)) := by rw [ht]; simp [dcells, hj]
    rw [List.getElem?_take_of_lt (by omega)] at e
    simpa using e
theorem OwnD.text {w : World} {base n c : Nat} {a : Option Addr} {bs : List UInt8} (h : OwnD w base (.slice a n c) bs) (h0 : 0 < bs.length) :
    (convert 28 9 (.slice a n c)).run Tryd.prog w = .ok (.string ⟨bs.toArray⟩) w := by
  obtain ⟨g, rfl, _, _, rfl, hc⟩ := h.cells h0
  exact run_convert_bytes_back w 28 9 5 ⟨g, 0, none⟩ c bs Tryd.underlying28 Tryd.underlying5 Tryd.underlying9 (fun j hj => by
    have := hc j hj
    by_cases e : j = 0
    · subst e; simpa [Addr.add] using this
    · simpa [Addr.add, e] using this)
theorem run_append_zero {P : Program} (w : World) (base : Nat) (t ty e : TypeId) (i : TypeInfo) (size : Nat) (ht : P.underlying t = some (.slice e)) (hi : P.info? e = some i)
    (v : Value) (n : Nat) (xs : List Value) (hown : w.ownsRow base e size v n xs) (a : Option Addr) (c : Nat) : (Builtin.append_ #[t, t] ty #[v, .slice a 0 c]).run P w = .ok v w := by
  rcases hown.2 with ⟨rfl, rfl⟩ | ⟨g, cap, cur, rfl, _, _, hnc, _⟩
  · cases a <;> simp [Builtin.append_, run_underlying ht, sizeOf, typeInfo, hi, Builtin.lenOf, Builtin.firstCells, loadCells, loadCellsFrom]
  · cases a <;> simp [Builtin.append_, run_underlying ht, sizeOf, typeInfo, hi, Builtin.lenOf, Builtin.firstCells, hnc, storeCells, loadCells, loadCellsFrom]
theorem wpList_append_zero {P : Program} (w : World) {ops : Array Oper} {rest : List Oper} {o : Oper} {a : Act} {Q : Exit → Act → World → Prop} (hgd : o.guard = none) (s x : Operand) (t : TypeId)
    (ho : o.op = .call { callee := .builtin .append, args := #[s, x], argTypes := #[t, t] })
    (base : Nat) (e : TypeId) (i : TypeInfo) (size : Nat) (ht : P.underlying t = some (.slice e)) (hi : P.info? e = some i)
    (v : Value) (n : Nat) (xs : List Value) (hs : a.eval s = v) (hown : w.ownsRow base e size v n xs) (ad : Option Addr) (c : Nat) (hx : a.eval x = .slice ad 0 c)
    (h : wpList P ops Q rest (a.put o.dst v) w) : wpList P ops Q (o :: rest) a w := by
  refine wpList_plain hgd fun K hK => ?_
  have hrun := run_append_zero (P := P) w base t o.type e i size ht hi v n xs hown ad c
  unfold Oper.wp execOp
  simp only [ho, resolve, invoke, builtin, Sem.run_bind, Sem.run_pure, Result.andThen_ok, List.map_toArray, List.map_cons, List.map_nil, hs, hx, hrun]
  exact hK _ _ h
/-- The digits so far, and what is left. -/
def DL (n k : Nat) (L : List UInt8) : Prop := (k = 0 → (n = 0 ∧ L = []) ∨ (0 < n ∧ Lib.decDigits n = L)) ∧ (0 < k → Lib.decDigits n = Lib.decDigits k ++ L)
theorem dl_start (n : Nat) : DL n n [] := ⟨fun h => .inl ⟨h, rfl⟩, fun _ => by simp⟩
theorem dl_next {n k : Nat} {L : List UInt8} (h : DL n k L) (hk : 0 < k) (hkn : k ≤ n) : DL n (k / 10) (UInt8.ofNat (48 + k % 10) :: L) := by
  have h1 := h.2 hk
  by_cases hs : k < 10
  · refine ⟨fun _ => .inr ⟨by omega, ?_⟩, fun h0 => by omega⟩
    rw [Lib.decDigits_one hs] at h1
    rw [Nat.mod_eq_of_lt hs, h1]
    rfl
  · refine ⟨fun h0 => by omega, fun _ => ?_⟩
    rw [h1]
    conv => lhs; rw [Lib.decDigits, dif_neg hs]
    simp
theorem dl_len {n k : Nat} {L : List UInt8} (h : DL n k L) (hn : n ≤ 1000000000) : L.length ≤ 21 := by
  have hd := dec_len n hn
  by_cases hk : k = 0
  · rcases h.1 hk with ⟨_, e⟩ | ⟨_, e⟩
    · rw [e]; simp
    · rw [← e]; exact hd
  · have := congrArg List.length (h.2 (by omega))
    simp at this
    omega
end Go.Proofs.YtgnalhnbdpigdaaDoor
