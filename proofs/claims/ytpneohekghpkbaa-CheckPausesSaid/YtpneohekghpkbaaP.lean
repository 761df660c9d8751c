/- A brain that came in by value, opened to its 27 cells and to its three slices' elements. -/
import Derived.Deep.Slices
import Derived.ChangeSame
import Derived.Test.YtpneohekghpkbaaM
namespace Go.Proofs.Ytpneohekghpkbaa
open Go.ChangeShapes Go.WideShapes Go.Deep Go.RowKit

theorem cellsT3 : Try.prog.cellsOf 3 = 1 := by kernel_rfl
theorem cellsT4 : Try.prog.cellsOf 4 = 1 := by kernel_rfl
theorem cellsT5 : Try.prog.cellsOf 5 = 1 := by kernel_rfl
theorem cellsT22 : Try.prog.cellsOf 22 = 1 := by kernel_rfl
theorem cellsT25 : Try.prog.cellsOf 25 = 1 := by kernel_rfl
theorem cellsT26 : Try.prog.cellsOf 26 = 1 := by kernel_rfl
theorem cellsT24 : Try.prog.cellsOf 24 = 15 := by kernel_rfl
theorem cellsT28 : Try.prog.cellsOf 28 = 7 := by kernel_rfl
theorem cellsT30 : Try.prog.cellsOf 30 = 27 := by kernel_rfl
theorem cellsT32 : Try.prog.cellsOf 32 = 8 := by kernel_rfl
theorem cellsT48 : Try.prog.cellsOf 48 = 4 := by kernel_rfl

theorem exists_list {α : Type} (n : Nat) (P : Nat → α → Prop) (h : ∀ i, i < n → ∃ x, P i x) : ∃ l : List α, n = l.length ∧ ∀ i (h : i < l.length), P i l[i] := by
  induction n with
  | zero => exact ⟨[], rfl, fun i h => absurd h (by simp)⟩
  | succ n ih =>
    obtain ⟨l, hl, hp⟩ := ih (fun i hi => h i (by omega))
    obtain ⟨x, hx⟩ := h n (by omega)
    refine ⟨l ++ [x], by simp [hl], fun i hi => ?_⟩
    by_cases hlt : i < l.length
    · rw [List.getElem_append_left hlt]; exact hp i hlt
    · have : i = l.length := by simp at hi; omega
      subst this
      rw [List.getElem_append_right (by omega)]
      simpa [← hl] using hx

theorem add_noneT (b off i : Nat) : (⟨b, off, none⟩ : Addr).add i = ⟨b, off + i, none⟩ := by
  unfold Addr.add
  by_cases hi : i = 0 <;> simp [hi]

section
variable {H : Type} {enc : TypeId × Value → H} {w : World} {base : Nat} {held : Bool} {spare : Nat → Bool}
/-- A slice whose elements are rows of k cells. -/
theorem open_rows {α : Type} (f : α → List Value) {t e k : Nat} (hk0 : 0 < k) (hfl : ∀ x, (f x).length = k) (ht : Try.prog.underlying t = some (.slice e)) (hk : Try.prog.cellsOf e = k)
    (hel : ∀ {n : Nat} {cs : List Value} {x : DataW H × List MemPlace}, DataW.trod enc Try.prog w base spare held n e cs = some x → ∃ y, cs = f y)
    {fuel : Nat} {cs : List Value} {x : DataW H × List MemPlace} (h : DataW.trod enc Try.prog w base spare held fuel t cs = some x) :
    ∃ a n cap, cs = [.slice a n cap] ∧ ∃ l : List α, n = l.length ∧ (l = [] ∨ ∃ b off, a = some ⟨b, off, none⟩ ∧ b < w.heap.size ∧ ∀ i (h : i < l.length), ∀ r u, (f l[i])[r]? = some u → w.cell? ⟨b, off + i * k + r, none⟩ = some u) := by
  rcases open_slice ht h with ⟨rfl, _⟩ | ⟨a, len, cap, m, n, D, Pl, rfl, _, hl, _, hm, _, hf⟩
  · exact ⟨none, 0, 0, rfl, [], rfl, .inl rfl⟩
  · refine ⟨some a, len, cap, rfl, ?_⟩
    have hlm : len ≤ m := by rw [hm]; split <;> omega
    obtain ⟨l, hll, hp⟩ := exists_list len (fun i y => ∀ r u, (f y)[r]? = some u → w.cell? (a.add (i * k + r)) = some u) (fun i hi => by
      obtain ⟨cs', hc, htr⟩ := hf i (by omega)
      rw [hk] at hc
      obtain ⟨y, rfl⟩ := hel htr
      obtain ⟨_, hlen, hat⟩ := World.cells?_some hc
      refine ⟨y, fun r u hr => ?_⟩
      have hrl : r < k := by rw [← hfl y]; exact (List.getElem?_eq_some_iff.1 hr).1
      have := hat r hrl
      rw [Go.Deep.add_add, hr] at this
      exact this)
    refine ⟨l, hll, ?_⟩
    by_cases hz : l = []
    · exact .inl hz
    · right
      have hpos : 0 < l.length := List.length_pos_iff.2 hz
      have h0 := hp 0 hpos 0 ((f l[0])[0]'(by rw [hfl]; exact hk0)) (List.getElem?_eq_getElem _)
      obtain ⟨b, off, spot⟩ := a
      have hs : spot = none := by simpa [Addr.add] using World.cell?_spot h0
      subst hs
      refine ⟨b, off, rfl, ?_, fun i hi r u hr => ?_⟩
      · rw [add_noneT] at h0
        exact World.block_lt_of_cell? w _ h0
      · have := hp i hi r u hr
        rw [add_noneT, ← Nat.add_assoc] at this
        exact this

theorem open_mark {n : Nat} {cs : List Value} {x : DataW H × List MemPlace} (h : DataW.trod enc Try.prog w base spare held n 3 cs = some x) : ∃ y : Int, cs = [.int .i64 y] := by
  obtain ⟨z, hz, _⟩ := DataW.trod_int Try.underlying3 h
  exact ⟨z, hz⟩
theorem list4T {α : Type} : ∀ (l : List α), l.length = 4 → ∃ c0 c1 c2 c3, l = [c0, c1, c2, c3]
  | [c0, c1, c2, c3], _ => ⟨c0, c1, c2, c3, rfl⟩
theorem open_it {n : Nat} {cs : List Value} {x : DataW H × List MemPlace} (h : DataW.trod enc Try.prog w base spare held n 48 cs = some x) : ∃ y : It, cs = It.vals y := by
  obtain ⟨ys, n', _, _, hlen, hyl, hg⟩ := DataW.trod_struct Try.underlying48 h
  rw [cellsT48] at hlen
  obtain ⟨c0, c1, c2, c3, rfl⟩ := list4T cs hlen
  have hy : ∀ i, i < 4 → ∃ y, ys[i]? = some y := fun i hi => ⟨_, List.getElem?_eq_getElem (by rw [hyl]; exact hi)⟩
  have h0 := hg 0 _ rfl
  obtain ⟨y0, e0⟩ := hy 0 (by omega)
  rw [e0] at h0
  obtain ⟨z0, q0, _⟩ := DataW.trod_int Try.underlying3 h0
  have h1 := hg 1 _ rfl
  obtain ⟨y1, e1⟩ := hy 1 (by omega)
  rw [e1] at h1
  obtain ⟨z1, q1, _⟩ := DataW.trod_int Try.underlying3 h1
  have h2 := hg 2 _ rfl
  obtain ⟨y2, e2⟩ := hy 2 (by omega)
  rw [e2] at h2
  obtain ⟨z2, q2, _⟩ := DataW.trod_int Try.underlying3 h2
  have h3 := hg 3 _ rfl
  obtain ⟨y3, e3⟩ := hy 3 (by omega)
  rw [e3] at h3
  obtain ⟨z3, q3, _⟩ := DataW.trod_bool Try.underlying4 h3
  simp [cellsT3, cellsT4] at q0 q1 q2 q3
  subst q0 q1 q2 q3
  exact ⟨⟨z0, z1, z2, z3⟩, rfl⟩
theorem list8T {α : Type} : ∀ (l : List α), l.length = 8 → ∃ c0 c1 c2 c3 c4 c5 c6 c7, l = [c0, c1, c2, c3, c4, c5, c6, c7]
  | [c0, c1, c2, c3, c4, c5, c6, c7], _ => ⟨c0, c1, c2, c3, c4, c5, c6, c7, rfl⟩
theorem open_kp {n : Nat} {cs : List Value} {x : DataW H × List MemPlace} (h : DataW.trod enc Try.prog w base spare held n 32 cs = some x) : ∃ y : Kp, cs = Kp.vals y := by
  obtain ⟨ys, n', _, _, hlen, hyl, hg⟩ := DataW.trod_struct Try.underlying32 h
  rw [cellsT32] at hlen
  obtain ⟨c0, c1, c2, c3, c4, c5, c6, c7, rfl⟩ := list8T cs hlen
  have hy : ∀ i, i < 8 → ∃ y, ys[i]? = some y := fun i hi => ⟨_, List.getElem?_eq_getElem (by rw [hyl]; exact hi)⟩
  have h0 := hg 0 _ rfl
  obtain ⟨y0, e0⟩ := hy 0 (by omega)
  rw [e0] at h0
  obtain ⟨z0, q0, _⟩ := DataW.trod_int Try.underlying3 h0
  have h1 := hg 1 _ rfl
  obtain ⟨y1, e1⟩ := hy 1 (by omega)
  rw [e1] at h1
  obtain ⟨z1, q1, _⟩ := DataW.trod_int Try.underlying3 h1
  have h2 := hg 2 _ rfl
  obtain ⟨y2, e2⟩ := hy 2 (by omega)
  rw [e2] at h2
  obtain ⟨z2, q2, _⟩ := DataW.trod_int Try.underlying3 h2
  have h3 := hg 3 _ rfl
  obtain ⟨y3, e3⟩ := hy 3 (by omega)
  rw [e3] at h3
  obtain ⟨z3, q3, _⟩ := DataW.trod_int Try.underlying3 h3
  have h4 := hg 4 _ rfl
  obtain ⟨y4, e4⟩ := hy 4 (by omega)
  rw [e4] at h4
  obtain ⟨z4, q4, _⟩ := DataW.trod_int Try.underlying5 h4
  have h5 := hg 5 _ rfl
  obtain ⟨y5, e5⟩ := hy 5 (by omega)
  rw [e5] at h5
  obtain ⟨z5, q5, _⟩ := DataW.trod_int Try.underlying3 h5
  have h6 := hg 6 _ rfl
  obtain ⟨y6, e6⟩ := hy 6 (by omega)
  rw [e6] at h6
  obtain ⟨z6, q6, _⟩ := DataW.trod_bool Try.underlying4 h6
  have h7 := hg 7 _ rfl
  obtain ⟨y7, e7⟩ := hy 7 (by omega)
  rw [e7] at h7
  obtain ⟨z7, q7, _⟩ := DataW.trod_bool Try.underlying4 h7
  simp [cellsT3, cellsT4, cellsT5] at q0 q1 q2 q3 q4 q5 q6 q7
  subst q0 q1 q2 q3 q4 q5 q6 q7
  exact ⟨⟨z0, z1, z2, z3, z4, z5, z6, z7⟩, rfl⟩
theorem list27T {α : Type} : ∀ (l : List α), l.length = 27 → ∃ c0 c1 c2 c3 c4 c5 c6 c7 c8 c9 c10 c11 c12 c13 c14 c15 c16 c17 c18 c19 c20 c21 c22 c23 c24 c25 c26, l = [c0, c1, c2, c3, c4, c5, c6, c7, c8, c9, c10, c11, c12, c13, c14, c15, c16, c17, c18, c19, c20, c21, c22, c23, c24, c25, c26]
  | [c0, c1, c2, c3, c4, c5, c6, c7, c8, c9, c10, c11, c12, c13, c14, c15, c16, c17, c18, c19, c20, c21, c22, c23, c24, c25, c26], _ => ⟨c0, c1, c2, c3, c4, c5, c6, c7, c8, c9, c10, c11, c12, c13, c14, c15, c16, c17, c18, c19, c20, c21, c22, c23, c24, c25, c26, rfl⟩

theorem open_brain {n : Nat} {cs : List Value} {x : DataW H × List MemPlace} (h : DataW.trod enc Try.prog w base spare held n 30 cs = some x) :
    ∃ (b : Br) (ms : List Int) (is : List It) (kl : List Kp), cs = (#[.int .i64 b.epoch, .int .i64 b.seq, .bool b.set, .int .i64 b.desired, .int .i64 b.minh, .int .i64 b.surplus, .int .i64 b.pool, .int .i64 b.hookIn, .int .i64 b.hookOut, .int .i64 b.warmup, .int .i64 b.drain, .int .i64 b.reap, .int .i64 b.timeout, .int .i64 b.fails, .int .i64 b.delay, .int .i64 b.version, .bool b.skip, .slice b.ma b.ml b.mc, .slice b.ia b.il b.ic, .slice b.ka b.kl b.kc, .int .u8 b.state, .int .i64 b.ffrom, .int .i64 b.target, .int .i64 b.step, .bool b.paused, .int .i64 b.since, .int .i64 b.rfails] : Array Value).toList ∧ IRow w w.heap.size b.ma b.ml ms ∧ TRow w w.heap.size b.ia b.il is ∧ KRow w w.heap.size (.slice b.ka b.kl b.kc) kl := by
  obtain ⟨ys, n', _, _, hlen, hyl, hg⟩ := DataW.trod_struct Try.underlying30 h
  rw [cellsT30] at hlen
  obtain ⟨c0, c1, c2, c3, c4, c5, c6, c7, c8, c9, c10, c11, c12, c13, c14, c15, c16, c17, c18, c19, c20, c21, c22, c23, c24, c25, c26, rfl⟩ := list27T cs hlen
  have hy : ∀ i, i < 7 → ∃ y, ys[i]? = some y := fun i hi => ⟨_, List.getElem?_eq_getElem (by rw [hyl]; exact hi)⟩
  have h0 := hg 0 _ rfl
  obtain ⟨y0, e0⟩ := hy 0 (by omega)
  rw [e0] at h0
  have h1 := hg 1 _ rfl
  obtain ⟨y1, e1⟩ := hy 1 (by omega)
  rw [e1] at h1
  have h2 := hg 2 _ rfl
  obtain ⟨y2, e2⟩ := hy 2 (by omega)
  rw [e2] at h2
  have h3 := hg 3 _ rfl
  obtain ⟨y3, e3⟩ := hy 3 (by omega)
  rw [e3] at h3
  have h4 := hg 4 _ rfl
  obtain ⟨y4, e4⟩ := hy 4 (by omega)
  rw [e4] at h4
  have h5 := hg 5 _ rfl
  obtain ⟨y5, e5⟩ := hy 5 (by omega)
  rw [e5] at h5
  have h6 := hg 6 _ rfl
  obtain ⟨y6, e6⟩ := hy 6 (by omega)
  rw [e6] at h6
  obtain ⟨v0, p0, _⟩ := DataW.trod_int Try.underlying3 h0
  obtain ⟨v1, p1, _⟩ := DataW.trod_int Try.underlying3 h1
  obtain ⟨v2, p2, _⟩ := DataW.trod_bool Try.underlying4 h2
  obtain ⟨xs, n3, _, _, _, hxl, hx⟩ := DataW.trod_struct Try.underlying24 h3
  have hxy : ∀ i, i < 15 → ∃ y, xs[i]? = some y := fun i hi => ⟨_, List.getElem?_eq_getElem (by rw [hxl]; exact hi)⟩
  have k0 := hx 0 _ rfl
  obtain ⟨u0, o0⟩ := hxy 0 (by omega)
  rw [o0] at k0
  obtain ⟨v3, p3, _⟩ := DataW.trod_int Try.underlying3 k0
  have k1 := hx 1 _ rfl
  obtain ⟨u1, o1⟩ := hxy 1 (by omega)
  rw [o1] at k1
  obtain ⟨v4, p4, _⟩ := DataW.trod_int Try.underlying3 k1
  have k2 := hx 2 _ rfl
  obtain ⟨u2, o2⟩ := hxy 2 (by omega)
  rw [o2] at k2
  obtain ⟨v5, p5, _⟩ := DataW.trod_int Try.underlying3 k2
  have k3 := hx 3 _ rfl
  obtain ⟨u3, o3⟩ := hxy 3 (by omega)
  rw [o3] at k3
  obtain ⟨v6, p6, _⟩ := DataW.trod_int Try.underlying3 k3
  have k4 := hx 4 _ rfl
  obtain ⟨u4, o4⟩ := hxy 4 (by omega)
  rw [o4] at k4
  obtain ⟨v7, p7, _⟩ := DataW.trod_int Try.underlying3 k4
  have k5 := hx 5 _ rfl
  obtain ⟨u5, o5⟩ := hxy 5 (by omega)
  rw [o5] at k5
  obtain ⟨v8, p8, _⟩ := DataW.trod_int Try.underlying3 k5
  have k6 := hx 6 _ rfl
  obtain ⟨u6, o6⟩ := hxy 6 (by omega)
  rw [o6] at k6
  obtain ⟨v9, p9, _⟩ := DataW.trod_int Try.underlying3 k6
  have k7 := hx 7 _ rfl
  obtain ⟨u7, o7⟩ := hxy 7 (by omega)
  rw [o7] at k7
  obtain ⟨v10, p10, _⟩ := DataW.trod_int Try.underlying3 k7
  have k8 := hx 8 _ rfl
  obtain ⟨u8, o8⟩ := hxy 8 (by omega)
  rw [o8] at k8
  obtain ⟨v11, p11, _⟩ := DataW.trod_int Try.underlying3 k8
  have k9 := hx 9 _ rfl
  obtain ⟨u9, o9⟩ := hxy 9 (by omega)
  rw [o9] at k9
  obtain ⟨v12, p12, _⟩ := DataW.trod_int Try.underlying3 k9
  have k10 := hx 10 _ rfl
  obtain ⟨u10, o10⟩ := hxy 10 (by omega)
  rw [o10] at k10
  obtain ⟨v13, p13, _⟩ := DataW.trod_int Try.underlying3 k10
  have k11 := hx 11 _ rfl
  obtain ⟨u11, o11⟩ := hxy 11 (by omega)
  rw [o11] at k11
  obtain ⟨v14, p14, _⟩ := DataW.trod_int Try.underlying3 k11
  have k12 := hx 12 _ rfl
  obtain ⟨u12, o12⟩ := hxy 12 (by omega)
  rw [o12] at k12
  obtain ⟨v15, p15, _⟩ := DataW.trod_int Try.underlying3 k12
  have k13 := hx 13 _ rfl
  obtain ⟨u13, o13⟩ := hxy 13 (by omega)
  rw [o13] at k13
  obtain ⟨v16, p16, _⟩ := DataW.trod_bool Try.underlying4 k13
  have k14 := hx 14 _ rfl
  obtain ⟨u14, o14⟩ := hxy 14 (by omega)
  rw [o14] at k14
  obtain ⟨a17, l17, m17, p17, ms, hms, rms⟩ := open_rows (fun z : Int => [Value.int .i64 z]) (k := 1) (by decide) (fun _ => rfl) Try.underlying22 cellsT3 open_mark k14
  obtain ⟨a18, l18, m18, p18, is, his, ris⟩ := open_rows It.vals (k := 4) (by decide) tvals_len Try.underlying25 cellsT48 open_it h4
  obtain ⟨a19, l19, m19, p19, kl, hkl, rkl⟩ := open_rows Kp.vals (k := 8) (by decide) kvals_len Try.underlying26 cellsT32 open_kp h5
  obtain ⟨zs, n6, _, _, _, hzl, hz⟩ := DataW.trod_struct Try.underlying28 h6
  have hzy : ∀ i, i < 7 → ∃ y, zs[i]? = some y := fun i hi => ⟨_, List.getElem?_eq_getElem (by rw [hzl]; exact hi)⟩
  have r0 := hz 0 _ rfl
  obtain ⟨w0, s0⟩ := hzy 0 (by omega)
  rw [s0] at r0
  obtain ⟨v20, p20, _⟩ := DataW.trod_int Try.underlying5 r0
  have r1 := hz 1 _ rfl
  obtain ⟨w1, s1⟩ := hzy 1 (by omega)
  rw [s1] at r1
  obtain ⟨v21, p21, _⟩ := DataW.trod_int Try.underlying3 r1
  have r2 := hz 2 _ rfl
  obtain ⟨w2, s2⟩ := hzy 2 (by omega)
  rw [s2] at r2
  obtain ⟨v22, p22, _⟩ := DataW.trod_int Try.underlying3 r2
  have r3 := hz 3 _ rfl
  obtain ⟨w3, s3⟩ := hzy 3 (by omega)
  rw [s3] at r3
  obtain ⟨v23, p23, _⟩ := DataW.trod_int Try.underlying3 r3
  have r4 := hz 4 _ rfl
  obtain ⟨w4, s4⟩ := hzy 4 (by omega)
  rw [s4] at r4
  obtain ⟨v24, p24, _⟩ := DataW.trod_bool Try.underlying4 r4
  have r5 := hz 5 _ rfl
  obtain ⟨w5, s5⟩ := hzy 5 (by omega)
  rw [s5] at r5
  obtain ⟨v25, p25, _⟩ := DataW.trod_int Try.underlying3 r5
  have r6 := hz 6 _ rfl
  obtain ⟨w6, s6⟩ := hzy 6 (by omega)
  rw [s6] at r6
  obtain ⟨v26, p26, _⟩ := DataW.trod_int Try.underlying3 r6
  simp [cellsT3, cellsT4, cellsT5, cellsT22, cellsT24, cellsT25, cellsT26, cellsT28] at p0 p1 p2 p3 p4 p5 p6 p7 p8 p9 p10 p11 p12 p13 p14 p15 p16 p17 p18 p19 p20 p21 p22 p23 p24 p25 p26
  subst p0 p1 p2 p3 p4 p5 p6 p7 p8 p9 p10 p11 p12 p13 p14 p15 p16 p17 p18 p19 p20 p21 p22 p23 p24 p25 p26
  refine ⟨⟨v0, v1, v2, v3, v4, v5, v6, v7, v8, v9, v10, v11, v12, v13, v14, v15, v16, a17, l17, m17, a18, l18, m18, a19, l19, m19, v20, v21, v22, v23, v24, v25, v26⟩, ms, is, kl, rfl, ⟨hms, ?_⟩, ⟨his, ?_⟩, ?_⟩
  · rcases rms with h | ⟨b, off, ha, hlt, hc⟩
    · exact .inl h
    · refine .inr ⟨b, off, ha, hlt, fun i hi => ?_⟩
      have := hc i hi 0 _ rfl
      rw [Nat.mul_one, Nat.add_zero] at this
      rw [this, List.getD_eq_getElem?_getD, List.getElem?_eq_getElem hi]
      rfl
  · rcases ris with h | ⟨b, off, ha, hlt, hc⟩
    · exact .inl h
    · exact .inr ⟨b, off, ha, hlt, fun i hi => .of (hc i hi)⟩
  · rcases rkl with h | ⟨b, off, ha, hlt, hc⟩
    · subst h; exact .inl ⟨a19, m19, by rw [hkl]; rfl, rfl⟩
    · refine .inr ⟨b, off, m19, ?_, hlt, fun i hi => .of (hc i hi)⟩
      show Value.slice a19 l19 m19 = _
      rw [ha, hkl]
end
end Go.Proofs.Ytpneohekghpkbaa
