/- The contract of Right: it answers; where it answers true, the numbers of a group that is set are small, and no group is being made anew that is not set. -/
import Derived.BigQuiet
import Derived.Deep.QuietTactic
import Derived.Test.YtpneohekghpkbaaJ
namespace Go.Proofs.Ytpneohekghpkbaa
open Go.RowKit Go.Shelf

/-- An intent. -/
structure It where
  token : Int
  version : Int
  zone : Int
  warm : Bool
/-- Four cells that hold an intent. -/
structure TCells (w : World) (b o : Nat) (k : It) : Prop where
  f0 : w.cell? ⟨b, o, none⟩ = some (.int .i64 k.token)
  f1 : w.cell? ⟨b, o + 1, none⟩ = some (.int .i64 k.version)
  f2 : w.cell? ⟨b, o + 2, none⟩ = some (.int .i64 k.zone)
  f3 : w.cell? ⟨b, o + 3, none⟩ = some (.bool k.warm)
theorem TCells.below {w w' : World} {N b o : Nat} {k : It} (h : TCells w b o k) (hb : Below N w w') (hB : b < N) : TCells w' b o k :=
  ⟨(hb.cell (p := ⟨b, o, none⟩) hB).trans h.f0, (hb.cell (p := ⟨b, o + 1, none⟩) hB).trans h.f1, (hb.cell (p := ⟨b, o + 2, none⟩) hB).trans h.f2, (hb.cell (p := ⟨b, o + 3, none⟩) hB).trans h.f3⟩
/-- A slice value that holds these intents, below block B. -/
def TRow (w : World) (B : Nat) (a : Option Addr) (n : Nat) (l : List It) : Prop :=
  n = l.length ∧ (l = [] ∨ ∃ b off, a = some ⟨b, off, none⟩ ∧ b < B ∧ ∀ i (h : i < l.length), TCells w b (off + i * 4) l[i])
theorem TRow.below {w w' : World} {N B : Nat} {a : Option Addr} {n : Nat} {l : List It} (h : TRow w B a n l) (hb : Below N w w') (hB : B ≤ N) : TRow w' B a n l := by
  obtain ⟨hn, h | ⟨b, off, ha, hlt, hc⟩⟩ := h
  · exact ⟨hn, .inl h⟩
  · exact ⟨hn, .inr ⟨b, off, ha, hlt, fun i hi => (hc i hi).below hb (by omega)⟩⟩
theorem TRow.mono {w : World} {B B' : Nat} {a : Option Addr} {n : Nat} {l : List It} (h : TRow w B a n l) (hB : B ≤ B') : TRow w B' a n l := by
  obtain ⟨hn, h | ⟨b, off, ha, hlt, hc⟩⟩ := h
  · exact ⟨hn, .inl h⟩
  · exact ⟨hn, .inr ⟨b, off, ha, by omega, hc⟩⟩
theorem KRow.open {w : World} {B n c : Nat} {a : Option Addr} {l : List Kp} (h : KRow w B (.slice a n c) l) : n = l.length ∧ (l = [] ∨ ∃ b off, a = some ⟨b, off, none⟩ ∧ b < B ∧ ∀ i (h : i < l.length), KCells w b (off + i * 8) l[i]) := by
  rcases h with ⟨a', c', hv, rfl⟩ | ⟨b, off, cap, hv, hlt, hc⟩
  · injection hv with h1 h2 h3
    exact ⟨h2, .inl rfl⟩
  · injection hv with h1 h2 h3
    exact ⟨h2, .inr ⟨b, off, h1, hlt, hc⟩⟩

/-- A brain's configuration is loaded out of its middle. -/
theorem BAt.conf {w : World} {B : Nat} {b : Br} (h : BAt w B b) : w.rangeAt B 3 (cfg b).toList := by
  unfold BAt at h
  intro j v hj
  have hc := cell_of_row w B (3 + j) _ _ _ h
  rw [hc]
  rcases j with _ | _ | _ | _ | _ | _ | _ | _ | _ | _ | _ | _ | _ | _ | _ | j
  · exact hj
  · exact hj
  · exact hj
  · exact hj
  · exact hj
  · exact hj
  · exact hj
  · exact hj
  · exact hj
  · exact hj
  · exact hj
  · exact hj
  · exact hj
  · exact hj
  · exact hj
  · simp [cfg] at hj
/-- The value leads to a brain's configuration. -/
def Conf24 (w : World) (v : Value) : Prop := ∃ B b, v = .pointer (some ⟨B, 3, none⟩) ∧ BAt w B b
def confOf (w : World) : Value → Array Value
  | .pointer (some a) => match w.heap[a.block]? with
    | some (.cells cs _ _) => cs.extract 3 18
    | _ => #[]
  | _ => #[]
theorem BAt.confOf {w : World} {B : Nat} {b : Br} (h : BAt w B b) : confOf w (.pointer (some ⟨B, 3, none⟩)) = #[.int .i64 b.desired, .int .i64 b.minh, .int .i64 b.surplus, .int .i64 b.pool, .int .i64 b.hookIn, .int .i64 b.hookOut, .int .i64 b.warmup, .int .i64 b.drain, .int .i64 b.reap, .int .i64 b.timeout, .int .i64 b.fails, .int .i64 b.delay, .int .i64 b.version, .bool b.skip, .slice b.ma b.ml b.mc] := by
  unfold BAt at h
  simp only [Ytpneohekghpkbaa.confOf, h]
  rfl
theorem loadC_rule (d : Option Tmp) (k t : Nat) (p : String) (af : Array Edge) (g : Option (Nat × Bool)) (ρ : Operand → Value) (w : World) (h : Conf24 w (ρ (.tmp k))) :
    Sem.run Try.prog (execOp ρ { dst := d, op := .load 24 (.tmp k), type := t, pos := p, after := af, guard := g }) w = .ok (.value (.agg (confOf w (ρ (.tmp k))))) w := by
  obtain ⟨B, b, hv, hb⟩ := h
  have hl := run_loadVar_mid (P := Try.prog) w B 3 24 (cfg b).toList _ hb.conf Try.underlying24 rfl size24
  have hc : confOf w (.pointer (some ⟨B, 3, none⟩)) = cfg b := hb.confOf
  have ht : (cfg b).toList.toArray = cfg b := rfl
  rw [ht] at hl
  unfold execOp
  simp only [hv, hc, Instr.loadAt, Instr.sureAddr, Sem.run_bind, Sem.run_pure, Result.andThen_ok, hl]
attribute [local go_sem ↓] loadC_rule
theorem BAt.conf24 {w : World} {B : Nat} {b : Br} (h : BAt w B b) : Conf24 w (.pointer (some ⟨B, 3, none⟩)) ∧ Ytpneohekghpkbaa.confOf w (.pointer (some ⟨B, 3, none⟩)) = #[.int .i64 b.desired, .int .i64 b.minh, .int .i64 b.surplus, .int .i64 b.pool, .int .i64 b.hookIn, .int .i64 b.hookOut, .int .i64 b.warmup, .int .i64 b.drain, .int .i64 b.reap, .int .i64 b.timeout, .int .i64 b.fails, .int .i64 b.delay, .int .i64 b.version, .bool b.skip, .slice b.ma b.ml b.mc] := ⟨⟨B, b, rfl, h⟩, h.confOf⟩

/-- What a brain that may be is known to be. -/
def Fits (b : Br) : Prop := (b.set = true → (0 ≤ b.desired ∧ b.desired ≤ 6) ∧ (0 ≤ b.delay ∧ b.delay ≤ 20)) ∧ (b.set = false → b.state = 0)
def RightPost (b : Br) (w : World) (e : Ending) (w' : World) : Prop := ∃ r, e = .returned (.bool r) ∧ (r = true → Fits b) ∧ Below w.heap.size w w'
theorem RightPost.bad {b : Br} {w w' : World} (h : Below w.heap.size w w') : RightPost b w (.returned (.bool false)) w' := ⟨false, rfl, fun h => absurd h (by decide), h⟩

set_option maxRecDepth 100000 in
set_option maxHeartbeats 4000000 in
theorem right_any (b : Br) (hil : b.il ≤ 40) (hkl40 : b.kl ≤ 40) (ms : List Int) (is : List It) (kl : List Kp) (w : World) (hm : IRow w w.heap.size b.ma b.ml ms) (hi : TRow w w.heap.size b.ia b.il is) (hk : KRow w w.heap.size (.slice b.ka b.kl b.kc) kl) :
    Calls Try.prog 7 #[.agg #[.int .i64 b.epoch, .int .i64 b.seq, .bool b.set, .int .i64 b.desired, .int .i64 b.minh, .int .i64 b.surplus, .int .i64 b.pool, .int .i64 b.hookIn, .int .i64 b.hookOut, .int .i64 b.warmup, .int .i64 b.drain, .int .i64 b.reap, .int .i64 b.timeout, .int .i64 b.fails, .int .i64 b.delay, .int .i64 b.version, .bool b.skip, .slice b.ma b.ml b.mc, .slice b.ia b.il b.ic, .slice b.ka b.kl b.kc, .int .u8 b.state, .int .i64 b.ffrom, .int .i64 b.target, .int .i64 b.step, .bool b.paused, .int .i64 b.since, .int .i64 b.rfails]] w (RightPost b w) := by
  have hbel : Below w.heap.size w (w.alloc (.cells #[.int .i64 b.epoch, .int .i64 b.seq, .bool b.set, .int .i64 b.desired, .int .i64 b.minh, .int .i64 b.surplus, .int .i64 b.pool, .int .i64 b.hookIn, .int .i64 b.hookOut, .int .i64 b.warmup, .int .i64 b.drain, .int .i64 b.reap, .int .i64 b.timeout, .int .i64 b.fails, .int .i64 b.delay, .int .i64 b.version, .bool b.skip, .slice b.ma b.ml b.mc, .slice b.ia b.il b.ic, .slice b.ka b.kl b.kc, .int .u8 b.state, .int .i64 b.ffrom, .int .i64 b.target, .int .i64 b.step, .bool b.paused, .int .i64 b.since, .int .i64 b.rfails] 30)) := (Below.refl _ _).alloc (Nat.le_refl _) _
  obtain ⟨W, hW⟩ : ∃ W, w.alloc (.cells #[.int .i64 b.epoch, .int .i64 b.seq, .bool b.set, .int .i64 b.desired, .int .i64 b.minh, .int .i64 b.surplus, .int .i64 b.pool, .int .i64 b.hookIn, .int .i64 b.hookOut, .int .i64 b.warmup, .int .i64 b.drain, .int .i64 b.reap, .int .i64 b.timeout, .int .i64 b.fails, .int .i64 b.delay, .int .i64 b.version, .bool b.skip, .slice b.ma b.ml b.mc, .slice b.ia b.il b.ic, .slice b.ka b.kl b.kc, .int .u8 b.state, .int .i64 b.ffrom, .int .i64 b.target, .int .i64 b.step, .bool b.paused, .int .i64 b.since, .int .i64 b.rfails] 30) = W := ⟨_, rfl⟩
  have hx : BAt W w.heap.size b := by rw [← hW]; exact BAt.new w b
  have hn : W.heap.size = w.heap.size + 1 := by rw [← hW]; simp
  rw [hW] at hbel
  have HM := Lib.hid (hm.below hbel (Nat.le_refl _))
  have HI := Lib.hid (hi.below hbel (Nat.le_refl _))
  have HK := Lib.hid (hk.below hbel (Nat.le_refl _)).open
  clear hm hi hk
  have HX := Lib.hid hx
  have HN := Lib.hid hn
  have HB := Lib.hid hbel
  have c0 := hx.f0
  have c1 := hx.f1
  have c2 := hx.f2
  have c18 := hx.f18
  have c19 := hx.f19
  clear hx hn hbel
  go_enter Try.func7, Try.ntmps7
  cases d1 : decide (b.epoch < 0) with
  | true =>
    go_wp2
    go_ret
    exact .bad HB.out
  | false =>
  cases d2 : decide (1099511627776 < b.epoch) with
  | true =>
    go_wp2
    go_ret
    exact .bad HB.out
  | false =>
  cases d3 : decide (b.seq < 0) with
  | true =>
    go_wp2
    go_ret
    exact .bad HB.out
  | false =>
  cases d4 : decide (1099511627776 < b.seq) with
  | true =>
    go_wp2
    go_ret
    exact .bad HB.out
  | false =>
  go_wp2_with fail
  clear d1 d2 d3 d4 c0 c1 c18 c19 c2
  go_loopw [3, 4] (fun s3 s4 wr => ∃ (l : Int) (k : Nat), k ≤ b.il ∧ s3 = .int .i64 l ∧ s4 = .int .i64 k ∧ Hid (Below (w.heap.size + 1) W wr)) (fun _ s4 _ => b.il - (intOf s4).toNat)
  case atStart => exact ⟨0, 0, by omega, rfl, rfl, Lib.hid (Below.refl _ _)⟩
  case round =>
    obtain ⟨l, k, hk, rfl, rfl, hB⟩ := hrel
    have hbw := Lib.hid (HB.out.trans (hB.out.mono (by omega)))
    have hxr := Lib.hid (HX.out.below hB.out (by omega))
    have c1 := hxr.out.f1
    have c18 := hxr.out.f18
    by_cases hlt : k < b.il
    · obtain ⟨hn, hnil | ⟨bb, off, ha, hlb, hcs⟩⟩ := HI.out
      · subst hnil; simp at hn; omega
      have hkl : k < is.length := by omega
      have hcc := ((hcs k hkl).below hB.out (by omega)).f0
      generalize is[k] = κ at hcc
      clear hcs hn hkl
      have hki : (k : Int) < (b.il : Int) := by omega
      cases e1 : decide (κ.token ≤ l) with
      | true =>
        go_wp2_with fail
        go_quiet (fail)
        go_wp2
        go_ret
        exact .bad (below_drewN hbw.out _)
      | false =>
      cases e2 : decide (b.seq < κ.token) with
      | true =>
        go_wp2_with fail
        go_quiet (fail)
        go_wp2
        go_ret
        exact .bad (below_drewN hbw.out _)
      | false =>
        go_wp2_with fail
        go_quiet (fail)
        go_wp2
        go_roundw
        case rel => exact ⟨_, k + 1, by omega, rfl, by go_num, Lib.hid (below_drewN hB.out _)⟩
        case measure => simp [intOf]; omega
    · obtain rfl : k = b.il := by omega
      have c5 := hxr.out.f19
      have HS2 := Lib.hid hB.out.size
      go_wp2_with fail
      clear c1 c18
      go_loop [3, 5] (fun s3 s5 => ∃ (l : Int) (k : Nat), k ≤ b.kl ∧ s3 = .int .i64 l ∧ s5 = .int .i64 k) (fun _ s5 => b.kl - (intOf s5).toNat)
      case atStart => exact ⟨0, 0, by omega, rfl, rfl⟩
      case round =>
        obtain ⟨l, k, hk, rfl, rfl⟩ := hrel
        by_cases hlt : k < b.kl
        · obtain ⟨hn, hnil | ⟨bb, off, ha, hlb, hcs⟩⟩ := HK.out
          · subst hnil; simp at hn; omega
          have hkl : k < kl.length := by omega
          obtain ⟨q0, -, -, -, q4, -, -, -⟩ := (hcs k hkl).below hB.out (by omega)
          generalize kl[k] = κ at q0 q4
          clear hcs hn hkl
          have hki : (k : Int) < (b.kl : Int) := by omega
          cases e1 : decide (κ.id ≤ l) with
          | true =>
            go_wp2
            go_ret
            exact .bad hbw.out
          | false =>
          cases e2 : decide (1099511627776 < κ.id) with
          | true =>
            go_wp2
            go_ret
            exact .bad hbw.out
          | false =>
          cases e3 : decide (κ.phase < 1) with
          | true =>
            go_wp2
            go_ret
            exact .bad hbw.out
          | false =>
          cases e4 : decide (10 < κ.phase) with
          | true =>
            go_wp2
            go_ret
            exact .bad hbw.out
          | false =>
            go_wp2
            go_round
            case rel => exact ⟨_, k + 1, by omega, rfl, by go_num⟩
            case measure => simp [intOf]; omega
        · obtain rfl : k = b.kl := by omega
          have r20 := hxr.out.f20
          have r21 := hxr.out.f21
          have r22 := hxr.out.f22
          have r23 := hxr.out.f23
          have r24 := hxr.out.f24
          have r25 := hxr.out.f25
          have r26 := hxr.out.f26
          obtain ⟨W2, hW2⟩ : ∃ W2, wr.alloc (.cells #[.int .u8 b.state, .int .i64 b.ffrom, .int .i64 b.target, .int .i64 b.step, .bool b.paused, .int .i64 b.since, .int .i64 b.rfails] 28) = W2 := ⟨_, rfl⟩
          have hwB : w.heap.size < wr.heap.size := hxr.out.lt
          have b2 : Below wr.heap.size wr W2 := by rw [← hW2]; exact (Below.refl _ _).alloc (Nat.le_refl _) _
          have hB2 := Lib.hid (hbw.out.trans (b2.mono (by omega)))
          have hbb2 := Lib.hid (hB.out.trans (b2.mono (by omega)))
          have hx2 := Lib.hid (hxr.out.below b2 hwB)
          have hn2 : W2.heap[wr.heap.size]? = some (.cells #[.int .u8 b.state, .int .i64 b.ffrom, .int .i64 b.target, .int .i64 b.step, .bool b.paused, .int .i64 b.since, .int .i64 b.rfails] 28 (0, 0)) := by rw [← hW2]; unfold World.alloc; simp
          have n0 : W2.cell? ⟨wr.heap.size, 0, none⟩ = some (.int .u8 b.state) := cell_of_row _ _ _ _ _ _ hn2
          have n1 : W2.cell? ⟨wr.heap.size, 1, none⟩ = some (.int .i64 b.ffrom) := cell_of_row _ _ _ _ _ _ hn2
          have n2 : W2.cell? ⟨wr.heap.size, 2, none⟩ = some (.int .i64 b.target) := cell_of_row _ _ _ _ _ _ hn2
          have c2 := hx2.out.f2
          have c18 := hx2.out.f18
          have c20 := hx2.out.f20
          obtain ⟨lc1, lc2⟩ := hx2.out.conf24
          clear hn2 b2 hwB
          cases st : (b.state == 1) with
          | false =>
            cases hs : b.set with
            | false =>
              rw [hs] at c2
              cases z1 : ((b.il : Int) == 0) with
              | false =>
                go_wp2
                go_ret
                exact .bad hB2.out
              | true =>
                cases z2 : (b.state == 0) with
                | false =>
                  go_wp2
                  go_ret
                  exact .bad hB2.out
                | true =>
                  have hz := Lib.hid (show b.state = 0 by simpa using z2)
                  have hs' := Lib.hid hs
                  clear hs
                  go_wp2
                  go_ret
                  exact ⟨true, rfl, fun _ => ⟨fun h => (by rw [hs'.out] at h; cases h), fun _ => hz.out⟩, hB2.out⟩
            | true =>
              rw [hs] at c2
              have hs' := Lib.hid hs
              clear hs
              go_wp2_with fail
              refine (check_any b ms W2 ((HM.out.below hbb2.out (by omega)).mono (by have := hB2.out.size; omega))).mono ?_
              rintro e w' ⟨n, rfl, hc, hb3⟩
              have hc' := Lib.hid hc
              clear hc
              go_wp2
              go_ret
              exact ⟨_, rfl, fun h => ⟨fun _ => hc'.out (by simpa using h), fun h => (by rw [hs'.out] at h; cases h)⟩, hB2.out.trans (hb3.mono hB2.out.size)⟩
          | true =>
            cases t1 : decide (b.ffrom < 1) with
            | true =>
              go_wp2
              go_ret
              exact .bad hB2.out
            | false =>
            cases t2 : decide (1099511627776 < b.ffrom) with
            | true =>
              go_wp2
              go_ret
              exact .bad hB2.out
            | false =>
            cases t3 : decide (b.target < 1) with
            | true =>
              go_wp2
              go_ret
              exact .bad hB2.out
            | false =>
            cases t4 : decide (1099511627776 < b.target) with
            | true =>
              go_wp2
              go_ret
              exact .bad hB2.out
            | false =>
            cases hs : b.set with
            | false =>
              rw [hs] at c2
              cases z1 : ((b.il : Int) == 0) with
              | false =>
                go_wp2
                go_ret
                exact .bad hB2.out
              | true =>
                cases z2 : (b.state == 0) with
                | false =>
                  go_wp2
                  go_ret
                  exact .bad hB2.out
                | true =>
                  have hz := Lib.hid (show b.state = 0 by simpa using z2)
                  have hs' := Lib.hid hs
                  clear hs
                  go_wp2
                  go_ret
                  exact ⟨true, rfl, fun _ => ⟨fun h => (by rw [hs'.out] at h; cases h), fun _ => hz.out⟩, hB2.out⟩
            | true =>
              rw [hs] at c2
              have hs' := Lib.hid hs
              clear hs
              go_wp2_with fail
              refine (check_any b ms W2 ((HM.out.below hbb2.out (by omega)).mono (by have := hB2.out.size; omega))).mono ?_
              rintro e w' ⟨n, rfl, hc, hb3⟩
              have hc' := Lib.hid hc
              clear hc
              go_wp2
              go_ret
              exact ⟨_, rfl, fun h => ⟨fun _ => hc'.out (by simpa using h), fun h => (by rw [hs'.out] at h; cases h)⟩, hB2.out.trans (hb3.mono hB2.out.size)⟩
end Go.Proofs.Ytpneohekghpkbaa
