/- What the two listed variables' cells hold: the phases that may follow, and the names. -/
import Derived.Test.YtmdakmlhcgegcaaDoorRows
import Derived.ProofKit
import Derived.OpenShut
import Derived.Lib.LaidTab
namespace Go.Proofs.YtmdakmlhcgegcaaDoor
open Go.ChangeShapes Go.WideShapes Go.RowKit

theorem gFollow : Tryd.prog.globalNamed "herd/phase.follow" = some 0 := by kernel_rfl
theorem gNames : Tryd.prog.globalNamed "herd/phase.names" = some 1 := by kernel_rfl
theorem gFollowT : (Tryd.prog.globals[0]?).map (·.type) = some 45 := by kernel_rfl
theorem gNamesT : (Tryd.prog.globals[1]?).map (·.type) = some 49 := by kernel_rfl
theorem cells5 : Tryd.prog.cellsOf 5 = 1 := by kernel_rfl
theorem cells9 : Tryd.prog.cellsOf 9 = 1 := by kernel_rfl
theorem cells44 : Tryd.prog.cellsOf 44 = 2 := by kernel_rfl
theorem cells45 : Tryd.prog.cellsOf 45 = 22 := by kernel_rfl
theorem cells49 : Tryd.prog.cellsOf 49 = 11 := by kernel_rfl

/-- The phases that may follow each one: two numbers a phase. -/
def followL : List (List Int) := [[0, 0], [2, 8], [3, 8], [4, 0], [5, 3], [6, 4], [7, 0], [8, 0], [0, 0], [10, 8], [1, 0]]
def namesL : List (List UInt8) := [[], [104, 101, 108, 100], [121, 111, 117, 110, 103], [106, 111, 105, 110, 105, 110, 103], [115, 101, 114, 118, 105, 110, 103], [108, 101, 97, 118, 105, 110, 103], [108, 101, 102, 116], [104, 101, 108, 100, 111, 117, 116], [101, 110, 100, 105, 110, 103], [119, 97, 114, 109, 101, 100], [119, 97, 107, 105, 110, 103]]

/-- What the phase's row holds at place j (0 or 1). -/
def follow (a : Nat) (j : Nat) : Int := (followL.getD a []).getD j 0
def nameS (a : Nat) : ByteArray := ⟨(namesL.getD a []).toArray⟩

/-- The world holds both tables. -/
structure Tables (w : World) : Prop where
  follow : ∀ a j, a < 11 → j < 2 → w.cell? ⟨0, a * 2 + j, none⟩ = some (.int .u8 (follow a j))
  names : ∀ a, a < 11 → w.cell? ⟨1, a, none⟩ = some (.string (nameS a))

section
variable {H : Type} {enc : TypeId × Value → H} {P : Program} {w : World} {base : Nat} {sp : Nat → Bool} {held : Bool}

theorem follow_cells {fuel : Nat} {cs : List Value} {p : List MemPlace}
    (h : DataW.trod enc Tryd.prog w base sp held fuel 45 cs = some (.agg (followL.map fun r => Lib.tabData .u8 r), p)) (a j : Nat) (ha : a < 11) (hj : j < 2) :
    cs[a * 2 + j]? = some (.int .u8 (follow a j)) := by
  obtain ⟨xs, m, _, hx, hl, hxl, hf⟩ := DataW.trod_array Tryd.underlying45 h
  have hxs : xs.map (·.1) = followL.map fun r => (Lib.tabData .u8 r : DataW H) := by
    have := congrArg Prod.fst hx
    simpa using this.symm
  have h1 := hf a ha
  rw [cells44] at h1
  have hal : a < xs.length := by omega
  have hxa : xs[a]? = some xs[a] := List.getElem?_eq_getElem hal
  have hfa : a < followL.length := ha
  have hd : (xs[a]).1 = Lib.tabData .u8 (followL[a]) := by
    have := congrArg (fun l => l[a]?) hxs
    simpa [hal, hfa] using this
  rw [hxa] at h1
  have h2 : DataW.trod enc Tryd.prog w base sp held m 44 ((cs.drop (a * 2)).take 2) = some (Lib.tabData .u8 (followL[a]), (xs[a]).2) := by
    rw [h1, ← hd]
  have h3 := Lib.cells_of_tab Tryd.underlying44 Tryd.underlying5 cells5 cells44 h2
  have h4 : ((cs.drop (a * 2)).take 2)[j]? = cs[a * 2 + j]? := by
    rw [List.getElem?_take_of_lt hj, List.getElem?_drop]
  rw [← h4, h3]
  have hlen : followL[a].length = 2 := by
    have : ∀ (r : List Int), r ∈ followL → r.length = 2 := by decide
    exact this _ (List.getElem_mem _)
  have hg : followL[a]?.getD [] = followL[a] := by rw [List.getElem?_eq_getElem hfa]; rfl
  simp [follow, hg, hlen, hj]

theorem names_cells {fuel : Nat} {cs : List Value} {p : List MemPlace}
    (h : DataW.trod enc Tryd.prog w base sp held fuel 49 cs = some (.agg (namesL.map fun r => .lit (.string r)), p)) (a : Nat) (ha : a < 11) :
    cs[a]? = some (.string (nameS a)) := by
  obtain ⟨xs, m, _, hx, hl, hxl, hf⟩ := DataW.trod_array Tryd.underlying49 h
  have hxs : xs.map (·.1) = namesL.map fun r => (.lit (.string r) : DataW H) := by
    have := congrArg Prod.fst hx
    simpa using this.symm
  have h1 := hf a ha
  rw [cells9] at h1
  have hal : a < xs.length := by omega
  have hxa : xs[a]? = some xs[a] := List.getElem?_eq_getElem hal
  have hfa : a < namesL.length := ha
  have hd : (xs[a]).1 = .lit (.string (namesL[a])) := by
    have := congrArg (fun l => l[a]?) hxs
    simpa [hal, hfa] using this
  rw [hxa] at h1
  obtain ⟨s, hs, hx2, _⟩ := DataW.trod_string Tryd.underlying9 h1
  have h4 : ((cs.drop (a * 1)).take 1)[0]? = cs[a]? := by
    rw [List.getElem?_take_of_lt (by decide), List.getElem?_drop]
    simp
  rw [← h4, hs]
  rw [hx2] at hd
  have hg : namesL[a]?.getD [] = namesL[a] := by rw [List.getElem?_eq_getElem hfa]; rfl
  simp only [DataW.lit.injEq, Lit.string.injEq] at hd
  simp [nameS, hg, ← hd]
end

def laidL : List (String × DataW Unit) := [("herd/phase.follow", Rows.laid_herd_phase_follow), ("herd/phase.names", Rows.laid_herd_phase_names)]

theorem tables_of_laid {W : World} (h : laidMetH Tryd.prog laidL W) : Tables W := by
  have h' : laidMet Tryd.prog laidL W := h
  obtain ⟨ps, ⟨g', t', cs, fuel, p, q, hg', ht', hvar, hd, ⟨g2, t2, cs2, fuel2, p2, q2, hg2, ht2, hvar2, hd2, _⟩, _⟩, _⟩ := h'
  obtain rfl := Option.some.inj (gFollow.symm.trans hg')
  obtain rfl := Option.some.inj (gFollowT.symm.trans ht')
  obtain rfl := Option.some.inj (gNames.symm.trans hg2)
  obtain rfl := Option.some.inj (gNamesT.symm.trans ht2)
  constructor
  · intro a j ha hj
    rw [World.var?_cell gFollow hvar]
    simpa using follow_cells hd a j ha hj
  · intro a ha
    rw [World.var?_cell gNames hvar2]
    simpa using names_cells hd2 a ha

theorem Tables.below {B : Nat} {w w' : World} (h : Tables w) (hb : Below B w w') (h2 : 2 ≤ B) : Tables w' :=
  ⟨fun a j ha hj => (hb.cell (p := ⟨0, a * 2 + j, none⟩) (by show 0 < B; omega)).trans (h.follow a j ha hj), fun a ha => (hb.cell (p := ⟨1, a, none⟩) (by show 1 < B; omega)).trans (h.names a ha)⟩
end Go.Proofs.YtmdakmlhcgegcaaDoor
