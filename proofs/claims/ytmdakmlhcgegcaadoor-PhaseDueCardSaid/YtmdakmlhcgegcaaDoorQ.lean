/- A slice of instances that came in, opened to its cells. -/
import Derived.Deep.Slices
import Derived.ChangeSame
import Derived.Test.YtmdakmlhcgegcaaDoorP
import Derived.Test.YtmdakmlhcgegcaaDoorL
namespace Go.Proofs.YtmdakmlhcgegcaaDoor
open Go.ChangeShapes Go.WideShapes Go.Deep Go.RowKit

theorem add_none (b off i : Nat) : (⟨b, off, none⟩ : Addr).add i = ⟨b, off + i, none⟩ := by
  unfold Addr.add
  by_cases hi : i = 0 <;> simp [hi]
theorem cells3 : Tryd.prog.cellsOf 3 = 1 := by kernel_rfl
theorem cells23 : Tryd.prog.cellsOf 23 = 8 := by kernel_rfl

section
variable {H : Type} {enc : TypeId × Value → H} {w : World} {base : Nat} {held : Bool}
/-- What a slice of instances that came in holds. -/
theorem open_kepts {fuel : Nat} {a : Option Addr} {n cap : Nat} {x : DataW H × List MemPlace} (h : DataW.trod enc Tryd.prog w base (fun _ => true) held fuel 37 [.slice a n cap] = some x) :
    ∃ ids : Nat → Int, (n = 0) ∨ ∃ b off, a = some ⟨b, off, none⟩ ∧ b < w.heap.size ∧ ∀ i, i < n → ∃ c1 c2 c3 c4 c5 c6 c7 : Value,
      w.cell? ⟨b, off + i * 8, none⟩ = some (.int .i64 (ids i)) ∧ w.cell? ⟨b, off + i * 8 + 1, none⟩ = some c1 ∧ w.cell? ⟨b, off + i * 8 + 2, none⟩ = some c2 ∧ w.cell? ⟨b, off + i * 8 + 3, none⟩ = some c3 ∧
      w.cell? ⟨b, off + i * 8 + 4, none⟩ = some c4 ∧ w.cell? ⟨b, off + i * 8 + 5, none⟩ = some c5 ∧ w.cell? ⟨b, off + i * 8 + 6, none⟩ = some c6 ∧ w.cell? ⟨b, off + i * 8 + 7, none⟩ = some c7 := by
  rcases open_slice Tryd.underlying37 h with ⟨hcs, _⟩ | ⟨a', len, cap', m, fu, D, Pl, hcs, _, hl, _, hm, _, hf⟩
  · simp at hcs
    exact ⟨fun _ => 0, .inl hcs.2.1⟩
  · simp at hcs hm
    obtain ⟨rfl, rfl, rfl⟩ := hcs
    subst hm
    by_cases hn : n = 0
    · exact ⟨fun _ => 0, .inl hn⟩
    · have key : ∀ i, i < n → ∃ (x : Int) (c1 c2 c3 c4 c5 c6 c7 : Value), w.cell? (a'.add (i * 8)) = some (.int .i64 x) ∧ w.cell? (a'.add (i * 8 + 1)) = some c1 ∧ w.cell? (a'.add (i * 8 + 2)) = some c2 ∧
          w.cell? (a'.add (i * 8 + 3)) = some c3 ∧ w.cell? (a'.add (i * 8 + 4)) = some c4 ∧ w.cell? (a'.add (i * 8 + 5)) = some c5 ∧ w.cell? (a'.add (i * 8 + 6)) = some c6 ∧ w.cell? (a'.add (i * 8 + 7)) = some c7 := by
        intro i hi
        obtain ⟨cs, hc, ht⟩ := hf i (by omega)
        rw [cells23] at hc
        obtain ⟨_, hlen, hat⟩ := World.cells?_some hc
        obtain ⟨ys, n', _, _, _, hyl, hg⟩ := DataW.trod_struct Tryd.underlying23 ht
        have h0 := hg 0 _ rfl
        have hcell : ∀ j, j < 8 → ∃ v, cs[j]? = some v ∧ w.cell? (a'.add (i * 8 + j)) = some v := by
          intro j hj
          have hv : cs[j]? = some (cs[j]'(by omega)) := List.getElem?_eq_getElem (by omega)
          have := hat j hj
          rw [Go.Deep.add_add, hv] at this
          exact ⟨_, hv, this⟩
        obtain ⟨v0, e0, g0⟩ := hcell 0 (by omega)
        obtain ⟨v1, _, g1⟩ := hcell 1 (by omega)
        obtain ⟨v2, _, g2⟩ := hcell 2 (by omega)
        obtain ⟨v3, _, g3⟩ := hcell 3 (by omega)
        obtain ⟨v4, _, g4⟩ := hcell 4 (by omega)
        obtain ⟨v5, _, g5⟩ := hcell 5 (by omega)
        obtain ⟨v6, _, g6⟩ := hcell 6 (by omega)
        obtain ⟨v7, _, g7⟩ := hcell 7 (by omega)
        have hy : ys[0]? = some (ys[0]'(by rw [hyl]; decide)) := List.getElem?_eq_getElem _
        rw [hy] at h0
        obtain ⟨z, hz, _, _⟩ := DataW.trod_int Tryd.underlying3 h0
        have hz' : cs[0]? = some (.int .i64 z) := by
          have := congrArg (fun l => l[0]?) hz
          simpa [List.getElem?_take, cells3] using this
        rw [e0] at hz'
        obtain rfl := Option.some.inj hz'
        exact ⟨z, v1, v2, v3, v4, v5, v6, v7, g0, g1, g2, g3, g4, g5, g6, g7⟩
      obtain ⟨b, off, spot⟩ := a'
      have hs : spot = none := by
        obtain ⟨_, _, _, _, _, _, _, _, g0, _⟩ := key 0 (by omega)
        simpa [Addr.add] using World.cell?_spot g0
      subst hs
      have hlt : b < w.heap.size := by
        obtain ⟨_, _, _, _, _, _, _, _, g0, _⟩ := key 0 (by omega)
        unfold World.cell? at g0
        cases hb : w.heap[b]? with
        | none => simp [Addr.add, hb] at g0
        | some o => exact (Array.getElem?_eq_some_iff.1 hb).1
      refine ⟨fun i => match w.cell? ⟨b, off + i * 8, none⟩ with | some (.int _ z) => z | _ => 0, .inr ⟨b, off, rfl, hlt, fun i hi => ?_⟩⟩
      obtain ⟨z, c1, c2, c3, c4, c5, c6, c7, g0, g1, g2, g3, g4, g5, g6, g7⟩ := key i hi
      simp only [add_none] at g0 g1 g2 g3 g4 g5 g6 g7
      refine ⟨c1, c2, c3, c4, c5, c6, c7, ?_, ?_, ?_, ?_, ?_, ?_, ?_, ?_⟩
      · simp only [g0]
      · simpa [Nat.add_assoc] using g1
      · simpa [Nat.add_assoc] using g2
      · simpa [Nat.add_assoc] using g3
      · simpa [Nat.add_assoc] using g4
      · simpa [Nat.add_assoc] using g5
      · simpa [Nat.add_assoc] using g6
      · simpa [Nat.add_assoc] using g7
end

theorem findlaw_any (a : Option Addr) (n cap : Nat) (id : Int) (w : World) (ids : Nat → Int)
    (h : (n = 0) ∨ ∃ b off, a = some ⟨b, off, none⟩ ∧ b < w.heap.size ∧ ∀ i, i < n → ∃ c1 c2 c3 c4 c5 c6 c7 : Value,
      w.cell? ⟨b, off + i * 8, none⟩ = some (.int .i64 (ids i)) ∧ w.cell? ⟨b, off + i * 8 + 1, none⟩ = some c1 ∧ w.cell? ⟨b, off + i * 8 + 2, none⟩ = some c2 ∧ w.cell? ⟨b, off + i * 8 + 3, none⟩ = some c3 ∧
      w.cell? ⟨b, off + i * 8 + 4, none⟩ = some c4 ∧ w.cell? ⟨b, off + i * 8 + 5, none⟩ = some c5 ∧ w.cell? ⟨b, off + i * 8 + 6, none⟩ = some c6 ∧ w.cell? ⟨b, off + i * 8 + 7, none⟩ = some c7)
    (hw : 2 ≤ w.heap.size) (hT : Tables w) :
    Calls Tryd.prog 6 #[.slice a n cap, .int .i64 id] w fun e w' => e = .returned (.bool true) ∧ Below w.heap.size w w' := by
  rcases h with rfl | ⟨b, off, rfl, hB, hc⟩
  · exact findlaw_nil a cap ids id w hw hT
  · by_cases hn : n ≤ 60
    · exact findlaw_some b off n cap ids id hn w hB hc hw hT
    · exact findlaw_great _ n cap _ rfl (by omega) id w hw hT
end Go.Proofs.YtmdakmlhcgegcaaDoor
