/- Rows of cells, an append onto a slice of one's own of whatever came in, and the contract of Own. -/
import Derived.Deep.Draws
import Derived.Test.YtpneohekghpkbaaK
namespace Go.Proofs.Ytpneohekghpkbaa
open Go.RowKit Go.Shelf

theorem info3 : (Try.prog.info? 3).map (fun i => (i.zero, i.size, i.bytes)) = some (some (.int .i64 0), 1, 8) := by kernel_rfl
theorem info48 : (Try.prog.info? 48).map (fun i => (i.zero, i.size, i.bytes)) = some (some (.agg #[.int .i64 0, .int .i64 0, .int .i64 0, .bool false]), 4, 32) := by kernel_rfl
theorem info32 : (Try.prog.info? 32).map (fun i => (i.zero, i.size, i.bytes)) = some (some (.agg #[.int .i64 0, .int .i64 0, .int .i64 0, .int .i64 0, .int .u8 0, .int .i64 0, .bool false, .bool false]), 8, 56) := by kernel_rfl

/-- A slice's cells: these values, below block B. -/
def Row (w : World) (B : Nat) (a : Option Addr) (n : Nat) (vals : List Value) (k : Nat) : Prop :=
  vals.length = n * k ∧ (n = 0 ∨ ∃ b off, a = some ⟨b, off, none⟩ ∧ b < B ∧ ∀ j u, vals[j]? = some u → w.cell? ⟨b, off + j, none⟩ = some u)
theorem Row.below {w w' : World} {N B n k : Nat} {a : Option Addr} {l : List Value} (h : Row w B a n l k) (hb : Below N w w') (hB : B ≤ N) : Row w' B a n l k := by
  obtain ⟨hn, h | ⟨b, off, ha, hlt, hc⟩⟩ := h
  · exact ⟨hn, .inl h⟩
  · exact ⟨hn, .inr ⟨b, off, ha, hlt, fun j u hj => (hb.cell (p := ⟨b, off + j, none⟩) (show b < N by omega)).trans (hc j u hj)⟩⟩
theorem Row.mono {w : World} {B B' n k : Nat} {a : Option Addr} {l : List Value} (h : Row w B a n l k) (hB : B ≤ B') : Row w B' a n l k := by
  obtain ⟨hn, h | ⟨b, off, ha, hlt, hc⟩⟩ := h
  · exact ⟨hn, .inl h⟩
  · exact ⟨hn, .inr ⟨b, off, ha, by omega, hc⟩⟩
theorem Row.of_own {w : World} {base e n k : Nat} {v : Value} {xs : List Value} (h : w.ownsRow base e k v n xs) : ∃ a c, v = .slice a n c ∧ Row w w.heap.size a n xs k := by
  obtain ⟨hl, hs⟩ := h
  rcases hs with ⟨rfl, rfl⟩ | ⟨g, cap, cur, rfl, hb, hg, h1, h2, h3, h4⟩
  · exact ⟨none, 0, rfl, hl, .inl rfl⟩
  · refine ⟨_, cap, rfl, hl, .inr ⟨g, 0, rfl, (Array.getElem?_eq_some_iff.1 hg).1, fun j u hj => ?_⟩⟩
    have := World.ownsRow.cells (w := w) (base := base) (e := e) (size := k) (n := n) (xs := xs) (v := .slice (some ⟨g, 0, none⟩) n cap) ⟨hl, .inr ⟨g, cap, cur, rfl, hb, hg, h1, h2, h3, h4⟩⟩ (g := g) rfl j u hj
    rwa [Addr.add_mid] at this

theorem flat_len {α : Type} (f : α → List Value) (k : Nat) (hk : ∀ x, (f x).length = k) (l : List α) : (l.flatMap f).length = l.length * k := by
  induction l with
  | nil => simp
  | cons x r ih => rw [List.flatMap_cons, List.length_append, ih, hk, List.length_cons, Nat.add_mul]; omega
theorem flat_get {α : Type} (f : α → List Value) (k : Nat) (hk : ∀ x, (f x).length = k) (l : List α) (i r : Nat) (hi : i < l.length) (hr : r < k) : (l.flatMap f)[i * k + r]? = (f l[i])[r]? := by
  induction l generalizing i with
  | nil => simp at hi
  | cons x t ih =>
    rw [List.flatMap_cons]
    cases i with
    | zero =>
      rw [List.getElem?_append_left (by rw [hk]; omega)]
      simp
    | succ i =>
      rw [List.getElem?_append_right (by rw [hk, Nat.add_mul]; omega), hk]
      have e : (i + 1) * k + r - k = i * k + r := by rw [Nat.add_mul]; omega
      rw [e, ih i (by simpa using hi)]
      simp

def It.vals (k : It) : List Value := [.int .i64 k.token, .int .i64 k.version, .int .i64 k.zone, .bool k.warm]
def mvals (ms : List Int) : List Value := ms.map (.int .i64)
def tvals (l : List It) : List Value := l.flatMap It.vals
def kvals (l : List Kp) : List Value := l.flatMap Kp.vals

theorem row_of_flat {α : Type} (f : α → List Value) (k : Nat) (hk : ∀ x, (f x).length = k) (w : World) (B n : Nat) (a : Option Addr) (l : List α) (hn : n = l.length)
    (h : l = [] ∨ ∃ b off, a = some ⟨b, off, none⟩ ∧ b < B ∧ ∀ i (h : i < l.length), ∀ r u, (f l[i])[r]? = some u → w.cell? ⟨b, off + i * k + r, none⟩ = some u) : Row w B a n (l.flatMap f) k := by
  refine ⟨by rw [flat_len f k hk, hn], ?_⟩
  rcases h with rfl | ⟨b, off, ha, hlt, hc⟩
  · exact .inl hn
  · refine .inr ⟨b, off, ha, hlt, fun j u hj => ?_⟩
    have hlen := (List.getElem?_eq_some_iff.1 hj).1
    rw [flat_len f k hk] at hlen
    by_cases hk0 : k = 0
    · subst hk0; simp at hlen
    · have h1 : j / k < l.length := Nat.div_lt_of_lt_mul (by rw [Nat.mul_comm]; exact hlen)
      have h2 : j % k < k := Nat.mod_lt _ (by omega)
      have h3 : j / k * k + j % k = j := by rw [Nat.mul_comm]; exact Nat.div_add_mod j k
      have hg := flat_get f k hk l (j / k) (j % k) h1 h2
      rw [h3, hj] at hg
      have := hc (j / k) h1 (j % k) u hg.symm
      rwa [Nat.add_assoc, h3] at this
theorem flat_of_row {α : Type} (f : α → List Value) (k : Nat) (hk : ∀ x, (f x).length = k) (w : World) (B n : Nat) (a : Option Addr) (l : List α) (hn : n = l.length) (h : Row w B a n (l.flatMap f) k) :
    l = [] ∨ ∃ b off, a = some ⟨b, off, none⟩ ∧ b < B ∧ ∀ i (h : i < l.length), ∀ r u, (f l[i])[r]? = some u → w.cell? ⟨b, off + i * k + r, none⟩ = some u := by
  obtain ⟨-, h | ⟨b, off, ha, hlt, hc⟩⟩ := h
  · left; exact List.eq_nil_of_length_eq_zero (by omega)
  · refine .inr ⟨b, off, ha, hlt, fun i hi r u hr => ?_⟩
    have hr' : r < k := by rw [← hk l[i]]; exact (List.getElem?_eq_some_iff.1 hr).1
    have := hc (i * k + r) u ((flat_get f k hk l i r hi hr').trans hr)
    rwa [← Nat.add_assoc] at this

theorem KCells.get {w : World} {b o : Nat} {κ : Kp} (h : KCells w b o κ) : ∀ r u, κ.vals[r]? = some u → w.cell? ⟨b, o + r, none⟩ = some u := by
  intro r u hu
  rcases r with _ | _ | _ | _ | _ | _ | _ | _ | r
  · exact h.f0.trans hu
  · exact h.f1.trans hu
  · exact h.f2.trans hu
  · exact h.f3.trans hu
  · exact h.f4.trans hu
  · exact h.f5.trans hu
  · exact h.f6.trans hu
  · exact h.f7.trans hu
  · simp [Kp.vals] at hu
theorem KCells.of {w : World} {b o : Nat} {κ : Kp} (h : ∀ r u, κ.vals[r]? = some u → w.cell? ⟨b, o + r, none⟩ = some u) : KCells w b o κ :=
  ⟨h 0 _ rfl, h 1 _ rfl, h 2 _ rfl, h 3 _ rfl, h 4 _ rfl, h 5 _ rfl, h 6 _ rfl, h 7 _ rfl⟩
theorem TCells.get {w : World} {b o : Nat} {κ : It} (h : TCells w b o κ) : ∀ r u, κ.vals[r]? = some u → w.cell? ⟨b, o + r, none⟩ = some u := by
  intro r u hu
  rcases r with _ | _ | _ | _ | r
  · exact h.f0.trans hu
  · exact h.f1.trans hu
  · exact h.f2.trans hu
  · exact h.f3.trans hu
  · simp [It.vals] at hu
theorem TCells.of {w : World} {b o : Nat} {κ : It} (h : ∀ r u, κ.vals[r]? = some u → w.cell? ⟨b, o + r, none⟩ = some u) : TCells w b o κ :=
  ⟨h 0 _ rfl, h 1 _ rfl, h 2 _ rfl, h 3 _ rfl⟩
theorem kvals_len (k : Kp) : k.vals.length = 8 := rfl
theorem tvals_len (k : It) : k.vals.length = 4 := rfl

theorem KRow.row {w : World} {B n c : Nat} {a : Option Addr} {l : List Kp} (h : KRow w B (.slice a n c) l) : Row w B a n (kvals l) 8 := by
  obtain ⟨hn, h⟩ := h.open
  refine row_of_flat Kp.vals 8 kvals_len w B n a l hn ?_
  rcases h with h | ⟨b, off, ha, hlt, hc⟩
  · exact .inl h
  · exact .inr ⟨b, off, ha, hlt, fun i hi r u hr => (hc i hi).get r u hr⟩
theorem Row.krow {w : World} {B n : Nat} (c : Nat) {a : Option Addr} {l : List Kp} (hn : n = l.length) (h : Row w B a n (kvals l) 8) : KRow w B (.slice a n c) l := by
  rcases flat_of_row Kp.vals 8 kvals_len w B n a l hn h with h | ⟨b, off, ha, hlt, hc⟩
  · subst h; subst hn; exact .inl ⟨a, c, rfl, rfl⟩
  · subst hn; subst ha
    exact .inr ⟨b, off, c, rfl, hlt, fun i hi => .of (hc i hi)⟩
theorem TRow.row {w : World} {B n : Nat} {a : Option Addr} {l : List It} (h : TRow w B a n l) : Row w B a n (tvals l) 4 := by
  obtain ⟨hn, h⟩ := h
  refine row_of_flat It.vals 4 tvals_len w B n a l hn ?_
  rcases h with h | ⟨b, off, ha, hlt, hc⟩
  · exact .inl h
  · exact .inr ⟨b, off, ha, hlt, fun i hi r u hr => (hc i hi).get r u hr⟩
theorem Row.trow {w : World} {B n : Nat} {a : Option Addr} {l : List It} (hn : n = l.length) (h : Row w B a n (tvals l) 4) : TRow w B a n l := by
  refine ⟨hn, ?_⟩
  rcases flat_of_row It.vals 4 tvals_len w B n a l hn h with h | ⟨b, off, ha, hlt, hc⟩
  · exact .inl h
  · exact .inr ⟨b, off, ha, hlt, fun i hi => .of (hc i hi)⟩
theorem IRow.row {w : World} {B n : Nat} {a : Option Addr} {l : List Int} (h : IRow w B a n l) : Row w B a n (mvals l) 1 := by
  obtain ⟨hn, h⟩ := h
  refine ⟨by simp [mvals, hn], ?_⟩
  rcases h with h | ⟨b, off, ha, hlt, hc⟩
  · left; subst h; exact hn
  · refine .inr ⟨b, off, ha, hlt, fun j u hj => ?_⟩
    unfold mvals at hj
    rw [List.getElem?_map] at hj
    obtain ⟨x, hx, rfl⟩ := Option.map_eq_some_iff.1 hj
    have hlt := (List.getElem?_eq_some_iff.1 hx).1
    rw [hc j hlt, List.getD_eq_getElem?_getD, hx]
    rfl
theorem Row.irow {w : World} {B n : Nat} {a : Option Addr} {l : List Int} (hn : n = l.length) (h : Row w B a n (mvals l) 1) : IRow w B a n l := by
  refine ⟨hn, ?_⟩
  obtain ⟨-, h | ⟨b, off, ha, hlt, hc⟩⟩ := h
  · left; exact List.eq_nil_of_length_eq_zero (by omega)
  · refine .inr ⟨b, off, ha, hlt, fun i hi => hc i _ ?_⟩
    unfold mvals
    rw [List.getElem?_map, List.getD_eq_getElem?_getD, List.getElem?_eq_getElem hi]
    rfl

theorem flat_one {α : Type} (f : α → List Value) (hf : ∀ x, ∀ u ∈ f x, u.oneCell' = true) (l : List α) : ∀ u ∈ l.flatMap f, u.oneCell' = true := by
  intro u hu
  obtain ⟨x, -, hx⟩ := List.mem_flatMap.1 hu
  exact hf x u hx
theorem mvals_one (l : List Int) : ∀ u ∈ mvals l, u.oneCell' = true := by
  intro u hu
  obtain ⟨x, -, rfl⟩ := List.mem_map.1 hu
  rfl
theorem tvals_one (l : List It) : ∀ u ∈ tvals l, u.oneCell' = true := flat_one _ (fun x u hu => by
  simp only [It.vals, List.mem_cons, List.not_mem_nil, or_false] at hu
  rcases hu with rfl | rfl | rfl | rfl <;> rfl) l
theorem kvals_one (l : List Kp) : ∀ u ∈ kvals l, u.oneCell' = true := flat_one _ (fun x u hu => by
  simp only [Kp.vals, List.mem_cons, List.not_mem_nil, or_false] at hu
  rcases hu with rfl | rfl | rfl | rfl | rfl | rfl | rfl | rfl <;> rfl) l

theorem run_append_src {P : Program} (w : World) (base : Nat) (t ty e : TypeId) (i : TypeInfo) (z : Value) (size bytes : Nat) (ht : P.underlying t = some (.slice e)) (hi : P.info? e = some i) (hz : i.zero = some z)
    (hsize : i.size = size) (hby : i.bytes = bytes) (hzs : z.cells.size = size) (hsz : 0 < size)
    (v : Value) (n : Nat) (xs : List Value) (hown : w.ownsRow base e size v n xs)
    (B : Nat) (a : Option Addr) (m c : Nat) (news : List Value) (hr : Row w B a m news size) (h1 : ∀ u ∈ news, u.oneCell' = true)
    (h63 : n + m ≤ maxLen) (hbytes : (n + m) * bytes ≤ 140737488355328) (hbase : base ≤ w.heap.size) :
    ∃ v' w', (Builtin.append_ #[t, t] ty #[v, .slice a m c]).run P w = .ok v' w' ∧ w'.ownsRow base e size v' (n + m) (xs ++ news) ∧ w.grownBy w' v.ownBlock := by
  obtain ⟨hl, hr⟩ := hr
  cases a with
  | some ad =>
    obtain ⟨v', w', h2, h3, h4, -⟩ := run_append_own w base t ty e i z size bytes ht hi hz hsize hby hzs hsz v n xs hown ad m c news hl (fun j u hj => by
      rcases hr with rfl | ⟨b, off, ha, -, hc⟩
      · have : news = [] := List.eq_nil_of_length_eq_zero (by omega)
        subst this; simp at hj
      · injection ha with ha
        subst ha
        rw [Addr.add_mid]
        exact hc j u hj) h1 h63 hbytes hbase
    exact ⟨v', w', h2, h3, h4⟩
  | none =>
    rcases hr with rfl | ⟨b, off, ha, -⟩
    · have : news = [] := List.eq_nil_of_length_eq_zero (by omega)
      subst this
      refine ⟨v, w, ?_, by simpa using hown, ⟨rfl, rfl, rfl, Nat.le_refl _, fun _ _ _ => rfl⟩⟩
      rcases hown.2 with ⟨rfl, rfl⟩ | ⟨g, cap, cur, rfl, _, _, hnc, _⟩
      · simp [Builtin.append_, run_underlying ht, sizeOf, typeInfo, hi, Builtin.lenOf, Builtin.firstCells]
      · simp [Builtin.append_, run_underlying ht, sizeOf, typeInfo, hi, Builtin.lenOf, Builtin.firstCells, hnc, storeCells]
    · cases ha

theorem wpList_append_src {P : Program} {w : World} {ops : Array Oper} {rest : List Oper} {o : Oper} {a : Act} {Q : Exit → Act → World → Prop} (hgd : o.guard = none) (s x : Operand) (t : TypeId)
    (ho : o.op = .call { callee := .builtin .append, args := #[s, x], argTypes := #[t, t] })
    (base : Nat) (e : TypeId) (i : TypeInfo) (z : Value) (size bytes : Nat) (ht : P.underlying t = some (.slice e)) (hi : P.info? e = some i) (hz : i.zero = some z)
    (hsize : i.size = size) (hby : i.bytes = bytes) (hzs : z.cells.size = size) (hsz : 0 < size)
    (v : Value) (n : Nat) (xs : List Value) (hs : a.eval s = v) (hown : w.ownsRow base e size v n xs)
    (B : Nat) (sa : Option Addr) (m c : Nat) (news : List Value) (hx : a.eval x = .slice sa m c) (hr : Row w B sa m news size) (h1 : ∀ u ∈ news, u.oneCell' = true)
    (h63 : n + m ≤ maxLen) (hbytes : (n + m) * bytes ≤ 140737488355328) (hbase : base ≤ w.heap.size)
    (h : ∀ v' w', w'.ownsRow base e size v' (n + m) (xs ++ news) → w.grownBy w' v.ownBlock → wpList P ops Q rest (a.put o.dst v') w') : wpList P ops Q (o :: rest) a w := by
  refine wpList_plain hgd fun K hK => ?_
  obtain ⟨v', w', hr', h2, h3⟩ := run_append_src (P := P) w base t o.type e i z size bytes ht hi hz hsize hby hzs hsz v n xs hown B sa m c news hr h1 h63 hbytes hbase
  unfold Oper.wp
  simp [execOp, ho, resolve, invoke, builtin, hs, hx, hr', Result.andThen]
  exact hK _ _ (h v' w' h2 h3)

/-- .. onto an empty slice of one's own: a new slice. -/
theorem wpList_append_new {P : Program} {w : World} {ops : Array Oper} {rest : List Oper} {o : Oper} {a : Act} {Q : Exit → Act → World → Prop} (hgd : o.guard = none) (s x : Operand) (t : TypeId)
    (ho : o.op = .call { callee := .builtin .append, args := #[s, x], argTypes := #[t, t] })
    (base : Nat) (e : TypeId) (i : TypeInfo) (z : Value) (size bytes : Nat) (ht : P.underlying t = some (.slice e)) (hi : P.info? e = some i) (hz : i.zero = some z)
    (hsize : i.size = size) (hby : i.bytes = bytes) (hzs : z.cells.size = size) (hsz : 0 < size)
    (v : Value) (hs : a.eval s = v) (hown : w.ownsRow base e size v 0 [])
    (B : Nat) (sa : Option Addr) (m c : Nat) (news : List Value) (hx : a.eval x = .slice sa m c) (hr : Row w B sa m news size) (h1 : ∀ u ∈ news, u.oneCell' = true)
    (h63 : m ≤ maxLen) (hbytes : m * bytes ≤ 140737488355328) (hbase : base ≤ w.heap.size)
    (h : ∀ a' c' w', w'.ownsRow base e size (.slice a' m c') m news → Row w' w'.heap.size a' m news size → Below base w w' → wpList P ops Q rest (a.put o.dst (.slice a' m c')) w') : wpList P ops Q (o :: rest) a w := by
  refine wpList_append_src hgd s x t ho base e i z size bytes ht hi hz hsize hby hzs hsz v 0 [] hs hown B sa m c news hx hr h1 (by omega) (by rw [Nat.zero_add]; exact hbytes) hbase ?_
  intro v' w' h2 h3
  rw [Nat.zero_add, List.nil_append] at h2
  obtain ⟨a', c', rfl, r⟩ := Row.of_own h2
  exact h a' c' w' h2 r ((Below.refl base w).grown h3 hbase (fun k hk => (hown.lt k hk).1))
end Go.Proofs.Ytpneohekghpkbaa
