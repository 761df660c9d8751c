/- An instance and a group that came in by value, opened to their parts. -/
import Derived.Test.YtmdakmlhcgegcaaDoorV
namespace Go.Proofs.YtmdakmlhcgegcaaDoor
open Go.ChangeShapes Go.WideShapes Go.Deep Go.RowKit

theorem cells4 : Tryd.prog.cellsOf 4 = 1 := by kernel_rfl
theorem cells26 : Tryd.prog.cellsOf 26 = 15 := by kernel_rfl

theorem list8 {α : Type} : ∀ (l : List α), l.length = 8 → ∃ a b c d e f g h, l = [a, b, c, d, e, f, g, h]
  | [a, b, c, d, e, f, g, h], _ => ⟨a, b, c, d, e, f, g, h, rfl⟩
theorem list15 {α : Type} : ∀ (l : List α), l.length = 15 → ∃ a b c d e f g h i j k m n o p, l = [a, b, c, d, e, f, g, h, i, j, k, m, n, o, p]
  | [a, b, c, d, e, f, g, h, i, j, k, m, n, o, p], _ => ⟨a, b, c, d, e, f, g, h, i, j, k, m, n, o, p, rfl⟩

section
variable {H : Type} {enc : TypeId × Value → H} {w : World} {base : Nat} {held : Bool} {spare : Nat → Bool}
theorem open_kept {r : Reach} {b0 : Nat} {v : Value} {d : DataW H} {p : List MemPlace} (hv : Value.okWide Tryd.prog w r b0 23 v) (h : DataW.Trod enc Tryd.prog w base spare held 23 v d p) :
    ∃ (k0 k1 k2 k3 k6 : Value) (ph since : Int) (comp : Bool), v = .agg #[k0, k1, k2, k3, .int .u8 ph, .int .i64 since, k6, .bool comp] ∧ 0 ≤ ph := by
  obtain ⟨cs, rfl, hsz⟩ := okWide_struct Tryd.underlying23 hv
  obtain ⟨l⟩ := cs
  obtain ⟨k0, k1, k2, k3, k4, k5, k6, k7, rfl⟩ := list8 l (hsz.trans cells23)
  obtain ⟨fuel, hf⟩ := h
  obtain ⟨ys, n', _, _, _, hyl, hg⟩ := DataW.trod_struct Tryd.underlying23 hf
  have hy : ∀ i, i < 8 → ∃ y, ys[i]? = some y := fun i hi => ⟨_, List.getElem?_eq_getElem (by rw [hyl]; exact hi)⟩
  have h4 := hg 4 _ rfl
  have h5 := hg 5 _ rfl
  have h7 := hg 7 _ rfl
  obtain ⟨y4, e4⟩ := hy 4 (by omega)
  obtain ⟨y5, e5⟩ := hy 5 (by omega)
  obtain ⟨y7, e7⟩ := hy 7 (by omega)
  rw [e4] at h4
  rw [e5] at h5
  rw [e7] at h7
  obtain ⟨z4, q4, _, w4⟩ := DataW.trod_int Tryd.underlying5 h4
  obtain ⟨z5, q5, _, _⟩ := DataW.trod_int Tryd.underlying3 h5
  obtain ⟨z7, q7, _⟩ := DataW.trod_bool Tryd.underlying4 h7
  simp [Value.cells, cells3, cells4, cells5] at q4 q5 q7
  subst q4 q5 q7
  exact ⟨k0, k1, k2, k3, k6, z4, z5, z7, rfl, (bounds_u8 w4).1⟩

theorem open_conf {r : Reach} {b0 : Nat} {v : Value} {d : DataW H} {p : List MemPlace} (hv : Value.okWide Tryd.prog w r b0 26 v) (h : DataW.Trod enc Tryd.prog w base spare held 26 v d p) :
    ∃ (c0 c1 c2 c3 : Value) (hin hout warm drain : Int) (c8 c9 c10 c11 c12 c13 c14 : Value), v = .agg #[c0, c1, c2, c3, .int .i64 hin, .int .i64 hout, .int .i64 warm, .int .i64 drain, c8, c9, c10, c11, c12, c13, c14] := by
  obtain ⟨cs, rfl, hsz⟩ := okWide_struct Tryd.underlying26 hv
  obtain ⟨l⟩ := cs
  obtain ⟨c0, c1, c2, c3, c4, c5, c6, c7, c8, c9, c10, c11, c12, c13, c14, rfl⟩ := list15 l (hsz.trans cells26)
  obtain ⟨fuel, hf⟩ := h
  obtain ⟨ys, n', _, _, _, hyl, hg⟩ := DataW.trod_struct Tryd.underlying26 hf
  have hy : ∀ i, i < 15 → ∃ y, ys[i]? = some y := fun i hi => ⟨_, List.getElem?_eq_getElem (by rw [hyl]; exact hi)⟩
  have h4 := hg 4 _ rfl
  have h5 := hg 5 _ rfl
  have h6 := hg 6 _ rfl
  have h7 := hg 7 _ rfl
  obtain ⟨y4, e4⟩ := hy 4 (by omega)
  obtain ⟨y5, e5⟩ := hy 5 (by omega)
  obtain ⟨y6, e6⟩ := hy 6 (by omega)
  obtain ⟨y7, e7⟩ := hy 7 (by omega)
  rw [e4] at h4
  rw [e5] at h5
  rw [e6] at h6
  rw [e7] at h7
  obtain ⟨z4, q4, _, _⟩ := DataW.trod_int Tryd.underlying3 h4
  obtain ⟨z5, q5, _, _⟩ := DataW.trod_int Tryd.underlying3 h5
  obtain ⟨z6, q6, _, _⟩ := DataW.trod_int Tryd.underlying3 h6
  obtain ⟨z7, q7, _, _⟩ := DataW.trod_int Tryd.underlying3 h7
  simp [Value.cells, cells3] at q4 q5 q6 q7
  subst q4 q5 q6 q7
  exact ⟨c0, c1, c2, c3, z4, z5, z6, z7, c8, c9, c10, c11, c12, c13, c14, rfl⟩
end
end Go.Proofs.YtmdakmlhcgegcaaDoor
