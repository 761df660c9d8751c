/- The walk of PhaseKinds. -/
import Derived.Test.YtmdakmlhcgegcaaDoorI
namespace Go.Proofs.YtmdakmlhcgegcaaDoor
open Go.RowKit Go.Shelf

theorem wakes_c {w0 w : World} (h : St w0 w) : Calls Tryd.prog 7 #[] w fun e w' => e = .returned (.bool true) ∧ St w0 w' :=
  (wakes_any w h.two h.tables).mono fun _ _ ⟨he, hb⟩ => ⟨he, h.next hb⟩
theorem nameV_c (a : Int) (h0 : 0 ≤ a) (h1 : a ≤ 255) {w0 w : World} (h : St w0 w) : Calls Tryd.prog 12 #[.int .u8 a] w fun e w' => e = .returned (.string (nameV a)) ∧ w = w' :=
  name_any a h0 h1 w h.tables

set_option maxRecDepth 100000 in
set_option maxHeartbeats 4000000 in
/-- One of this class; b may not follow. -/
theorem kinds_stands_same_no (a b : Int) (ha0 : 1 ≤ a) (ha1 : a < 11) (hb0 : 0 ≤ b) (hb1 : b ≤ 255) (he : (nameV a).toList.isEmpty = false) (hs : standsB a = true) (hg : goesB a = false) (h9 : (a == 9) = false) (hab : (a == b) = true) (hq : ((nameV a).toList == (nameV b).toList) = true) (hl : legalB a b = false) (w : World) (hw : 2 ≤ w.heap.size) (hT : Tables w) :
    Calls Tryd.prog 4 #[.int .u8 a, .int .u8 b] w fun e w' => e = .returned (.bool true) ∧ Below w.heap.size w w' := by
  have h0 : St w w := ⟨Below.refl _ _, hT, hw⟩
  have HS := Lib.hid hs
  have HG := Lib.hid hg
  have HL := Lib.hid hl
  clear hw hT hs hg hl
  go_enter Tryd.func4, Tryd.ntmps4
  go_wp2_with fail
  refine (stands_c a true HS.out _).mono ?_
  rintro e w1 ⟨rfl, rfl⟩
  go_wp2_with fail
  refine (goes_c a false HG.out _).mono ?_
  rintro e w1 ⟨rfl, rfl⟩
  go_wp2_with fail
  refine (nameV_c a (by omega) (by omega) h0).mono ?_
  rintro e w1 ⟨rfl, rfl⟩
  go_wp2_with fail
  refine (nameV_c a (by omega) (by omega) h0).mono ?_
  rintro e w1 ⟨rfl, rfl⟩
  go_wp2_with fail
  refine (nameV_c b (by omega) (by omega) h0).mono ?_
  rintro e w1 ⟨rfl, rfl⟩
  go_wp2_with fail
  refine (legal_c a b false (by omega) HL.out h0).mono ?_
  rintro e w1 ⟨rfl, h1⟩
  go_wp2_with fail
  refine (wakes_c h1).mono ?_
  rintro e w2 ⟨rfl, h2⟩
  go_wp2
  go_ret
  exact ⟨rfl, h2.below⟩

set_option maxRecDepth 100000 in
set_option maxHeartbeats 4000000 in
/-- One of this class; b may not follow. -/
theorem kinds_stands_other_no (a b : Int) (ha0 : 1 ≤ a) (ha1 : a < 11) (hb0 : 0 ≤ b) (hb1 : b ≤ 255) (he : (nameV a).toList.isEmpty = false) (hs : standsB a = true) (hg : goesB a = false) (h9 : (a == 9) = false) (hab : (a == b) = false) (hq : ((nameV a).toList == (nameV b).toList) = false) (hl : legalB a b = false) (w : World) (hw : 2 ≤ w.heap.size) (hT : Tables w) :
    Calls Tryd.prog 4 #[.int .u8 a, .int .u8 b] w fun e w' => e = .returned (.bool true) ∧ Below w.heap.size w w' := by
  have h0 : St w w := ⟨Below.refl _ _, hT, hw⟩
  have HS := Lib.hid hs
  have HG := Lib.hid hg
  have HL := Lib.hid hl
  clear hw hT hs hg hl
  go_enter Tryd.func4, Tryd.ntmps4
  go_wp2_with fail
  refine (stands_c a true HS.out _).mono ?_
  rintro e w1 ⟨rfl, rfl⟩
  go_wp2_with fail
  refine (goes_c a false HG.out _).mono ?_
  rintro e w1 ⟨rfl, rfl⟩
  go_wp2_with fail
  refine (nameV_c a (by omega) (by omega) h0).mono ?_
  rintro e w1 ⟨rfl, rfl⟩
  go_wp2_with fail
  refine (nameV_c a (by omega) (by omega) h0).mono ?_
  rintro e w1 ⟨rfl, rfl⟩
  go_wp2_with fail
  refine (nameV_c b (by omega) (by omega) h0).mono ?_
  rintro e w1 ⟨rfl, rfl⟩
  go_wp2_with fail
  refine (legal_c a b false (by omega) HL.out h0).mono ?_
  rintro e w1 ⟨rfl, h1⟩
  go_wp2_with fail
  refine (wakes_c h1).mono ?_
  rintro e w2 ⟨rfl, h2⟩
  go_wp2
  go_ret
  exact ⟨rfl, h2.below⟩

set_option maxRecDepth 100000 in
set_option maxHeartbeats 4000000 in
/-- One of this class; b may follow. -/
theorem kinds_stands_yes (a b : Int) (ha0 : 1 ≤ a) (ha1 : a < 11) (hb0 : 0 ≤ b) (hb1 : b ≤ 255) (he : (nameV a).toList.isEmpty = false) (hs : standsB a = true) (hg : goesB a = false) (h9 : (a == 9) = false) (hab : (a == b) = false) (hq : ((nameV a).toList == (nameV b).toList) = false) (hb2 : 1 ≤ b) (hb3 : b < 11) (hl : legalB a b = true) (w : World) (hw : 2 ≤ w.heap.size) (hT : Tables w) :
    Calls Tryd.prog 4 #[.int .u8 a, .int .u8 b] w fun e w' => e = .returned (.bool true) ∧ Below w.heap.size w w' := by
  have h0 : St w w := ⟨Below.refl _ _, hT, hw⟩
  have HS := Lib.hid hs
  have HG := Lib.hid hg
  have HL := Lib.hid hl
  clear hw hT hs hg hl
  go_enter Tryd.func4, Tryd.ntmps4
  go_wp2_with fail
  refine (stands_c a true HS.out _).mono ?_
  rintro e w1 ⟨rfl, rfl⟩
  go_wp2_with fail
  refine (goes_c a false HG.out _).mono ?_
  rintro e w1 ⟨rfl, rfl⟩
  go_wp2_with fail
  refine (nameV_c a (by omega) (by omega) h0).mono ?_
  rintro e w1 ⟨rfl, rfl⟩
  go_wp2_with fail
  refine (nameV_c a (by omega) (by omega) h0).mono ?_
  rintro e w1 ⟨rfl, rfl⟩
  go_wp2_with fail
  refine (nameV_c b (by omega) (by omega) h0).mono ?_
  rintro e w1 ⟨rfl, rfl⟩
  go_wp2_with fail
  refine (legal_c a b true (by omega) HL.out h0).mono ?_
  rintro e w1 ⟨rfl, h1⟩
  go_wp2_with fail
  refine (goes_c a false HG.out _).mono ?_
  rintro e w2 ⟨rfl, rfl⟩
  go_wp2_with fail
  refine (wakes_c h1).mono ?_
  rintro e w2 ⟨rfl, h2⟩
  go_wp2
  go_ret
  exact ⟨rfl, h2.below⟩

set_option maxRecDepth 100000 in
set_option maxHeartbeats 4000000 in
/-- One of this class; b may not follow. -/
theorem kinds_goes_same_no (a b : Int) (ha0 : 1 ≤ a) (ha1 : a < 11) (hb0 : 0 ≤ b) (hb1 : b ≤ 255) (he : (nameV a).toList.isEmpty = false) (hs : standsB a = false) (hg : goesB a = true) (h9 : (a == 9) = false) (hab : (a == b) = true) (hq : ((nameV a).toList == (nameV b).toList) = true) (hl : legalB a b = false) (w : World) (hw : 2 ≤ w.heap.size) (hT : Tables w) :
    Calls Tryd.prog 4 #[.int .u8 a, .int .u8 b] w fun e w' => e = .returned (.bool true) ∧ Below w.heap.size w w' := by
  have h0 : St w w := ⟨Below.refl _ _, hT, hw⟩
  have HS := Lib.hid hs
  have HG := Lib.hid hg
  have HL := Lib.hid hl
  clear hw hT hs hg hl
  go_enter Tryd.func4, Tryd.ntmps4
  go_wp2_with fail
  refine (stands_c a false HS.out _).mono ?_
  rintro e w1 ⟨rfl, rfl⟩
  go_wp2_with fail
  refine (goes_c a true HG.out _).mono ?_
  rintro e w1 ⟨rfl, rfl⟩
  go_wp2_with fail
  refine (nameV_c a (by omega) (by omega) h0).mono ?_
  rintro e w1 ⟨rfl, rfl⟩
  go_wp2_with fail
  refine (nameV_c a (by omega) (by omega) h0).mono ?_
  rintro e w1 ⟨rfl, rfl⟩
  go_wp2_with fail
  refine (nameV_c b (by omega) (by omega) h0).mono ?_
  rintro e w1 ⟨rfl, rfl⟩
  go_wp2_with fail
  refine (legal_c a b false (by omega) HL.out h0).mono ?_
  rintro e w1 ⟨rfl, h1⟩
  go_wp2_with fail
  refine (wakes_c h1).mono ?_
  rintro e w2 ⟨rfl, h2⟩
  go_wp2
  go_ret
  exact ⟨rfl, h2.below⟩

set_option maxRecDepth 100000 in
set_option maxHeartbeats 4000000 in
/-- One of this class; b may not follow. -/
theorem kinds_goes_other_no (a b : Int) (ha0 : 1 ≤ a) (ha1 : a < 11) (hb0 : 0 ≤ b) (hb1 : b ≤ 255) (he : (nameV a).toList.isEmpty = false) (hs : standsB a = false) (hg : goesB a = true) (h9 : (a == 9) = false) (hab : (a == b) = false) (hq : ((nameV a).toList == (nameV b).toList) = false) (hl : legalB a b = false) (w : World) (hw : 2 ≤ w.heap.size) (hT : Tables w) :
    Calls Tryd.prog 4 #[.int .u8 a, .int .u8 b] w fun e w' => e = .returned (.bool true) ∧ Below w.heap.size w w' := by
  have h0 : St w w := ⟨Below.refl _ _, hT, hw⟩
  have HS := Lib.hid hs
  have HG := Lib.hid hg
  have HL := Lib.hid hl
  clear hw hT hs hg hl
  go_enter Tryd.func4, Tryd.ntmps4
  go_wp2_with fail
  refine (stands_c a false HS.out _).mono ?_
  rintro e w1 ⟨rfl, rfl⟩
  go_wp2_with fail
  refine (goes_c a true HG.out _).mono ?_
  rintro e w1 ⟨rfl, rfl⟩
  go_wp2_with fail
  refine (nameV_c a (by omega) (by omega) h0).mono ?_
  rintro e w1 ⟨rfl, rfl⟩
  go_wp2_with fail
  refine (nameV_c a (by omega) (by omega) h0).mono ?_
  rintro e w1 ⟨rfl, rfl⟩
  go_wp2_with fail
  refine (nameV_c b (by omega) (by omega) h0).mono ?_
  rintro e w1 ⟨rfl, rfl⟩
  go_wp2_with fail
  refine (legal_c a b false (by omega) HL.out h0).mono ?_
  rintro e w1 ⟨rfl, h1⟩
  go_wp2_with fail
  refine (wakes_c h1).mono ?_
  rintro e w2 ⟨rfl, h2⟩
  go_wp2
  go_ret
  exact ⟨rfl, h2.below⟩

set_option maxRecDepth 100000 in
set_option maxHeartbeats 4000000 in
/-- One of this class; b may follow. -/
theorem kinds_goes_yes_stands (a b : Int) (ha0 : 1 ≤ a) (ha1 : a < 11) (hb0 : 0 ≤ b) (hb1 : b ≤ 255) (he : (nameV a).toList.isEmpty = false) (hs : standsB a = false) (hg : goesB a = true) (h9 : (a == 9) = false) (hab : (a == b) = false) (hq : ((nameV a).toList == (nameV b).toList) = false) (hb2 : 1 ≤ b) (hb3 : b < 11) (hl : legalB a b = true) (hsb : standsB b = true) (h4 : (b != 4) = false) (w : World) (hw : 2 ≤ w.heap.size) (hT : Tables w) :
    Calls Tryd.prog 4 #[.int .u8 a, .int .u8 b] w fun e w' => e = .returned (.bool true) ∧ Below w.heap.size w w' := by
  have HSB := Lib.hid hsb
  clear hsb
  have h0 : St w w := ⟨Below.refl _ _, hT, hw⟩
  have HS := Lib.hid hs
  have HG := Lib.hid hg
  have HL := Lib.hid hl
  clear hw hT hs hg hl
  go_enter Tryd.func4, Tryd.ntmps4
  go_wp2_with fail
  refine (stands_c a false HS.out _).mono ?_
  rintro e w1 ⟨rfl, rfl⟩
  go_wp2_with fail
  refine (goes_c a true HG.out _).mono ?_
  rintro e w1 ⟨rfl, rfl⟩
  go_wp2_with fail
  refine (nameV_c a (by omega) (by omega) h0).mono ?_
  rintro e w1 ⟨rfl, rfl⟩
  go_wp2_with fail
  refine (nameV_c a (by omega) (by omega) h0).mono ?_
  rintro e w1 ⟨rfl, rfl⟩
  go_wp2_with fail
  refine (nameV_c b (by omega) (by omega) h0).mono ?_
  rintro e w1 ⟨rfl, rfl⟩
  go_wp2_with fail
  refine (legal_c a b true (by omega) HL.out h0).mono ?_
  rintro e w1 ⟨rfl, h1⟩
  go_wp2_with fail
  refine (goes_c a true HG.out _).mono ?_
  rintro e w2 ⟨rfl, rfl⟩
  go_wp2_with fail
  refine (stands_c b true HSB.out _).mono ?_
  rintro e w2 ⟨rfl, rfl⟩
  go_wp2_with fail
  refine (wakes_c h1).mono ?_
  rintro e w2 ⟨rfl, h2⟩
  go_wp2
  go_ret
  exact ⟨rfl, h2.below⟩

set_option maxRecDepth 100000 in
set_option maxHeartbeats 4000000 in
/-- One of this class; b may follow. -/
theorem kinds_goes_yes_not (a b : Int) (ha0 : 1 ≤ a) (ha1 : a < 11) (hb0 : 0 ≤ b) (hb1 : b ≤ 255) (he : (nameV a).toList.isEmpty = false) (hs : standsB a = false) (hg : goesB a = true) (h9 : (a == 9) = false) (hab : (a == b) = false) (hq : ((nameV a).toList == (nameV b).toList) = false) (hb2 : 1 ≤ b) (hb3 : b < 11) (hl : legalB a b = true) (hsb : standsB b = false) (w : World) (hw : 2 ≤ w.heap.size) (hT : Tables w) :
    Calls Tryd.prog 4 #[.int .u8 a, .int .u8 b] w fun e w' => e = .returned (.bool true) ∧ Below w.heap.size w w' := by
  have HSB := Lib.hid hsb
  clear hsb
  have h0 : St w w := ⟨Below.refl _ _, hT, hw⟩
  have HS := Lib.hid hs
  have HG := Lib.hid hg
  have HL := Lib.hid hl
  clear hw hT hs hg hl
  go_enter Tryd.func4, Tryd.ntmps4
  go_wp2_with fail
  refine (stands_c a false HS.out _).mono ?_
  rintro e w1 ⟨rfl, rfl⟩
  go_wp2_with fail
  refine (goes_c a true HG.out _).mono ?_
  rintro e w1 ⟨rfl, rfl⟩
  go_wp2_with fail
  refine (nameV_c a (by omega) (by omega) h0).mono ?_
  rintro e w1 ⟨rfl, rfl⟩
  go_wp2_with fail
  refine (nameV_c a (by omega) (by omega) h0).mono ?_
  rintro e w1 ⟨rfl, rfl⟩
  go_wp2_with fail
  refine (nameV_c b (by omega) (by omega) h0).mono ?_
  rintro e w1 ⟨rfl, rfl⟩
  go_wp2_with fail
  refine (legal_c a b true (by omega) HL.out h0).mono ?_
  rintro e w1 ⟨rfl, h1⟩
  go_wp2_with fail
  refine (goes_c a true HG.out _).mono ?_
  rintro e w2 ⟨rfl, rfl⟩
  go_wp2_with fail
  refine (stands_c b false HSB.out _).mono ?_
  rintro e w2 ⟨rfl, rfl⟩
  go_wp2_with fail
  refine (wakes_c h1).mono ?_
  rintro e w2 ⟨rfl, h2⟩
  go_wp2
  go_ret
  exact ⟨rfl, h2.below⟩

set_option maxRecDepth 100000 in
set_option maxHeartbeats 4000000 in
/-- One of this class; b may not follow. -/
theorem kinds_warm_same_no (a b : Int) (ha0 : 1 ≤ a) (ha1 : a < 11) (hb0 : 0 ≤ b) (hb1 : b ≤ 255) (he : (nameV a).toList.isEmpty = false) (hs : standsB a = false) (hg : goesB a = false) (h9 : (a == 9) = true) (hab : (a == b) = true) (hq : ((nameV a).toList == (nameV b).toList) = true) (hl : legalB a b = false) (w : World) (hw : 2 ≤ w.heap.size) (hT : Tables w) :
    Calls Tryd.prog 4 #[.int .u8 a, .int .u8 b] w fun e w' => e = .returned (.bool true) ∧ Below w.heap.size w w' := by
  have h0 : St w w := ⟨Below.refl _ _, hT, hw⟩
  have HS := Lib.hid hs
  have HG := Lib.hid hg
  have HL := Lib.hid hl
  clear hw hT hs hg hl
  go_enter Tryd.func4, Tryd.ntmps4
  go_wp2_with fail
  refine (stands_c a false HS.out _).mono ?_
  rintro e w1 ⟨rfl, rfl⟩
  go_wp2_with fail
  refine (goes_c a false HG.out _).mono ?_
  rintro e w1 ⟨rfl, rfl⟩
  go_wp2_with fail
  refine (nameV_c a (by omega) (by omega) h0).mono ?_
  rintro e w1 ⟨rfl, rfl⟩
  go_wp2_with fail
  refine (nameV_c a (by omega) (by omega) h0).mono ?_
  rintro e w1 ⟨rfl, rfl⟩
  go_wp2_with fail
  refine (nameV_c b (by omega) (by omega) h0).mono ?_
  rintro e w1 ⟨rfl, rfl⟩
  go_wp2_with fail
  refine (legal_c a b false (by omega) HL.out h0).mono ?_
  rintro e w1 ⟨rfl, h1⟩
  go_wp2_with fail
  refine (wakes_c h1).mono ?_
  rintro e w2 ⟨rfl, h2⟩
  go_wp2
  go_ret
  exact ⟨rfl, h2.below⟩

set_option maxRecDepth 100000 in
set_option maxHeartbeats 4000000 in
/-- One of this class; b may not follow. -/
theorem kinds_warm_other_no (a b : Int) (ha0 : 1 ≤ a) (ha1 : a < 11) (hb0 : 0 ≤ b) (hb1 : b ≤ 255) (he : (nameV a).toList.isEmpty = false) (hs : standsB a = false) (hg : goesB a = false) (h9 : (a == 9) = true) (hab : (a == b) = false) (hq : ((nameV a).toList == (nameV b).toList) = false) (hl : legalB a b = false) (w : World) (hw : 2 ≤ w.heap.size) (hT : Tables w) :
    Calls Tryd.prog 4 #[.int .u8 a, .int .u8 b] w fun e w' => e = .returned (.bool true) ∧ Below w.heap.size w w' := by
  have h0 : St w w := ⟨Below.refl _ _, hT, hw⟩
  have HS := Lib.hid hs
  have HG := Lib.hid hg
  have HL := Lib.hid hl
  clear hw hT hs hg hl
  go_enter Tryd.func4, Tryd.ntmps4
  go_wp2_with fail
  refine (stands_c a false HS.out _).mono ?_
  rintro e w1 ⟨rfl, rfl⟩
  go_wp2_with fail
  refine (goes_c a false HG.out _).mono ?_
  rintro e w1 ⟨rfl, rfl⟩
  go_wp2_with fail
  refine (nameV_c a (by omega) (by omega) h0).mono ?_
  rintro e w1 ⟨rfl, rfl⟩
  go_wp2_with fail
  refine (nameV_c a (by omega) (by omega) h0).mono ?_
  rintro e w1 ⟨rfl, rfl⟩
  go_wp2_with fail
  refine (nameV_c b (by omega) (by omega) h0).mono ?_
  rintro e w1 ⟨rfl, rfl⟩
  go_wp2_with fail
  refine (legal_c a b false (by omega) HL.out h0).mono ?_
  rintro e w1 ⟨rfl, h1⟩
  go_wp2_with fail
  refine (wakes_c h1).mono ?_
  rintro e w2 ⟨rfl, h2⟩
  go_wp2
  go_ret
  exact ⟨rfl, h2.below⟩

set_option maxRecDepth 100000 in
set_option maxHeartbeats 4000000 in
/-- One of this class; b may follow. -/
theorem kinds_warm_yes (a b : Int) (ha0 : 1 ≤ a) (ha1 : a < 11) (hb0 : 0 ≤ b) (hb1 : b ≤ 255) (he : (nameV a).toList.isEmpty = false) (hs : standsB a = false) (hg : goesB a = false) (h9 : (a == 9) = true) (hab : (a == b) = false) (hq : ((nameV a).toList == (nameV b).toList) = false) (hb2 : 1 ≤ b) (hb3 : b < 11) (hl : legalB a b = true) (w : World) (hw : 2 ≤ w.heap.size) (hT : Tables w) :
    Calls Tryd.prog 4 #[.int .u8 a, .int .u8 b] w fun e w' => e = .returned (.bool true) ∧ Below w.heap.size w w' := by
  have h0 : St w w := ⟨Below.refl _ _, hT, hw⟩
  have HS := Lib.hid hs
  have HG := Lib.hid hg
  have HL := Lib.hid hl
  clear hw hT hs hg hl
  go_enter Tryd.func4, Tryd.ntmps4
  go_wp2_with fail
  refine (stands_c a false HS.out _).mono ?_
  rintro e w1 ⟨rfl, rfl⟩
  go_wp2_with fail
  refine (goes_c a false HG.out _).mono ?_
  rintro e w1 ⟨rfl, rfl⟩
  go_wp2_with fail
  refine (nameV_c a (by omega) (by omega) h0).mono ?_
  rintro e w1 ⟨rfl, rfl⟩
  go_wp2_with fail
  refine (nameV_c a (by omega) (by omega) h0).mono ?_
  rintro e w1 ⟨rfl, rfl⟩
  go_wp2_with fail
  refine (nameV_c b (by omega) (by omega) h0).mono ?_
  rintro e w1 ⟨rfl, rfl⟩
  go_wp2_with fail
  refine (legal_c a b true (by omega) HL.out h0).mono ?_
  rintro e w1 ⟨rfl, h1⟩
  go_wp2_with fail
  refine (goes_c a false HG.out _).mono ?_
  rintro e w2 ⟨rfl, rfl⟩
  go_wp2_with fail
  refine (wakes_c h1).mono ?_
  rintro e w2 ⟨rfl, h2⟩
  go_wp2
  go_ret
  exact ⟨rfl, h2.below⟩

set_option maxRecDepth 100000 in
set_option maxHeartbeats 4000000 in
/-- A number that is no phase. -/
theorem kinds_none_low (a b : Int) (ha0 : 0 ≤ a) (ha1 : a ≤ 255) (hi : a < 1) (he : (nameV a).toList.isEmpty = true) (hs : standsB a = false) (hg : goesB a = false) (h9 : (a == 9) = false) (hl : legalB a b = false) (w : World) (hw : 2 ≤ w.heap.size) (hT : Tables w) :
    Calls Tryd.prog 4 #[.int .u8 a, .int .u8 b] w fun e w' => e = .returned (.bool true) ∧ Below w.heap.size w w' := by
  have h0 : St w w := ⟨Below.refl _ _, hT, hw⟩
  have HS := Lib.hid hs
  have HG := Lib.hid hg
  have HL := Lib.hid hl
  clear hw hT hs hg hl
  go_enter Tryd.func4, Tryd.ntmps4
  go_wp2_with fail
  refine (stands_c a false HS.out _).mono ?_
  rintro e w1 ⟨rfl, rfl⟩
  go_wp2_with fail
  refine (goes_c a false HG.out _).mono ?_
  rintro e w1 ⟨rfl, rfl⟩
  go_wp2_with fail
  refine (nameV_c a (by omega) (by omega) h0).mono ?_
  rintro e w1 ⟨rfl, rfl⟩
  go_wp2_with fail
  refine (legal_c a b false (by omega) HL.out h0).mono ?_
  rintro e w1 ⟨rfl, h1⟩
  go_wp2_with fail
  refine (wakes_c h1).mono ?_
  rintro e w2 ⟨rfl, h2⟩
  go_wp2
  go_ret
  exact ⟨rfl, h2.below⟩

set_option maxRecDepth 100000 in
set_option maxHeartbeats 4000000 in
/-- A number that is no phase. -/
theorem kinds_none_high (a b : Int) (ha0 : 0 ≤ a) (ha1 : a ≤ 255) (hi : 11 ≤ a) (he : (nameV a).toList.isEmpty = true) (hs : standsB a = false) (hg : goesB a = false) (h9 : (a == 9) = false) (hl : legalB a b = false) (w : World) (hw : 2 ≤ w.heap.size) (hT : Tables w) :
    Calls Tryd.prog 4 #[.int .u8 a, .int .u8 b] w fun e w' => e = .returned (.bool true) ∧ Below w.heap.size w w' := by
  have h0 : St w w := ⟨Below.refl _ _, hT, hw⟩
  have HS := Lib.hid hs
  have HG := Lib.hid hg
  have HL := Lib.hid hl
  clear hw hT hs hg hl
  go_enter Tryd.func4, Tryd.ntmps4
  go_wp2_with fail
  refine (stands_c a false HS.out _).mono ?_
  rintro e w1 ⟨rfl, rfl⟩
  go_wp2_with fail
  refine (goes_c a false HG.out _).mono ?_
  rintro e w1 ⟨rfl, rfl⟩
  go_wp2_with fail
  refine (nameV_c a (by omega) (by omega) h0).mono ?_
  rintro e w1 ⟨rfl, rfl⟩
  go_wp2_with fail
  refine (legal_c a b false (by omega) HL.out h0).mono ?_
  rintro e w1 ⟨rfl, h1⟩
  go_wp2_with fail
  refine (wakes_c h1).mono ?_
  rintro e w2 ⟨rfl, h2⟩
  go_wp2
  go_ret
  exact ⟨rfl, h2.below⟩
end Go.Proofs.YtmdakmlhcgegcaaDoor
