/- A nil monoid, and one that nobody made: none, Len and terms.Value of it; the statement TermsNil's walk. -/
import Derived.Test.YtcbkihhpnndpkaaPLx1
import Derived.Test.YtcbkihhpnndpkaaHLaw
import Derived.Outline
set_option linter.unusedVariables false
set_option linter.unusedSimpArgs false
namespace Go.Proofs.Ytcbkihhpnndpkaa.HNil
open Go.RowKit Go.Proofs.YtcbkihhpnndpkaaW.PrintWords Go.Proofs.YtcbkihhpnndpkaaW.PrintLast Go.Proofs.YtcbkihhpnndpkaaW.PrintMore
open Go.Proofs.Ytcbkihhpnndpkaa Go.Proofs.Ytcbkihhpnndpkaa.PA Go.Proofs.Ytcbkihhpnndpkaa.PL

abbrev cM : Array Value := #[.int .i64 0, .slice none 0 0, .slice none 0 0, .bool false, .slice none 0 0, .slice none 0 0, .slice none 0 0, .slice none 0 0]
/-- A monoid that is none. -/
def Nil (w : World) (v : Value) : Prop := v = .pointer none ∨ ∃ g, v = .pointer (some ⟨g, 0, none⟩) ∧ w.heap[g]? = some (.cells cM 59 (0, 0))
theorem Nil.below {w w' : World} {v : Value} (h : Nil w v) (hb : Below w.heap.size w w') : Nil w' v := by
  rcases h with h | ⟨g, h1, h2⟩
  · exact .inl h
  · exact .inr ⟨g, h1, blk_below h2 hb⟩
set_option maxHeartbeats 1000000 in
set_option maxRecDepth 100000 in
theorem none_ (v : Value) (w : World) (h : Nil w v) : Calls Try.prog 88 #[v] w fun e w' => e = .returned (.bool true) ∧ w' = w := by
  rcases h with rfl | ⟨g, rfl, hg⟩
  · go_enter Try.func88, Try.ntmps88
    go_wp2_with fail
    go_ret
    exact ⟨rfl, rfl⟩
  · have hc : w.cell? ⟨g, 3, none⟩ = some (.bool false) := (blk_cell hg 3).trans rfl
    clear hg
    go_enter Try.func88, Try.ntmps88
    go_wp2_with fail
    go_ret
    exact ⟨rfl, rfl⟩
set_option maxHeartbeats 1000000 in
set_option maxRecDepth 100000 in
theorem len_ (v : Value) (w : World) (h : Nil w v) : Calls Try.prog 38 #[v] w fun e w' => e = .returned (.int .i64 0) ∧ w' = w := by
  have H := Aside0.mk h
  clear h
  go_enter Try.func38, Try.ntmps38
  go_wp2_with fail
  refine (none_ v w H.out).mono ?_
  rintro e w1 ⟨rfl, rfl⟩
  go_wp2_with fail
  go_ret
  exact ⟨rfl, rfl⟩
set_option maxHeartbeats 1000000 in
set_option maxRecDepth 100000 in
theorem value_nil (A0 : Option Addr) (n0 c0 : Nat) (A1 : Option Addr) (n1 c1 : Nat) (w : World) : Calls Try.prog 26 #[.pointer none, .slice A0 n0 c0, .slice A1 n1 c1] w fun e w' => e = .returned (.tuple #[.int .i64 0, .int .i64 1]) ∧ Below w.heap.size w w' := by
  go_enter Try.func26, Try.ntmps26
  go_wp2_with fail
  repeat (go_quiet (fail); try go_wp2_with fail)
  go_ret2
  exact ⟨rfl, by repeat (first | exact Below.refl _ _ | apply below_alloc | apply below_drew | apply pw_below_drewN)⟩
set_option maxHeartbeats 1000000 in
set_option maxRecDepth 100000 in
theorem value_none (g : Nat) (A0 : Option Addr) (n0 c0 : Nat) (A1 : Option Addr) (n1 c1 : Nat) (w : World) (hg : w.heap[g]? = some (.cells cM 59 (0, 0))) : Calls Try.prog 26 #[.pointer (some ⟨g, 0, none⟩), .slice A0 n0 c0, .slice A1 n1 c1] w fun e w' => e = .returned (.tuple #[.int .i64 0, .int .i64 1]) ∧ Below w.heap.size w w' := by
  have H := Aside0.mk (show Nil w (.pointer (some ⟨g, 0, none⟩)) from .inr ⟨g, rfl, hg⟩)
  clear hg
  go_enter Try.func26, Try.ntmps26
  go_wp2_with fail
  refine (len_ _ _ (H.out.below (by repeat (first | exact Below.refl _ _ | apply below_alloc)))).mono ?_
  rintro e w1 ⟨rfl, rfl⟩
  go_wp2_with fail
  go_ret2
  exact ⟨rfl, by repeat (first | exact Below.refl _ _ | apply below_alloc | apply below_drew | apply pw_below_drewN)⟩

def f (k : Nat) (l0 : List S97) (l1 : List Int) : Option Bool := eggboxlaw19_knows.f k
set_option maxHeartbeats 2000000 in
set_option maxRecDepth 100000 in
theorem f.calls (k : Nat) (A0 : Option Addr) (c0 : Nat) (l0 : List S97) (A1 : Option Addr) (c1 : Nat) (l1 : List Int) (r : Bool) (w : World) (hr0 : Kd.C k97 w A0 l0.length l0) (hc0 : l0.length ≤ c0) (hr1 : Kd.C (Kd.int .i64) w A1 l1.length l1) (hc1 : l1.length ≤ c1) (h : f k l0 l1 = some r) :
    Calls Try.prog 6 #[.slice A0 l0.length c0, .slice A1 l1.length c1] w fun e w' => e = .returned (.bool r) ∧ Below w.heap.size w w' := by
  have H := Aside0.mk (show eggboxlaw19_knows.f k = some r from h)
  clear h hr0 hc0 hr1 hc1
  go_enter Try.func6, Try.ntmps6
  go_wp2_with fail
  refine (value_nil A0 l0.length c0 A1 l1.length c1 w).mono ?_
  rintro e w1 ⟨rfl, hb1⟩
  have HB1 := Aside0.mk hb1
  clear hb1
  go_wp2_with fail
  refine (value_none w1.heap.size A0 l0.length c0 A1 l1.length c1 _ (blk_new w1 _)).mono ?_
  rintro e w2 ⟨rfl, hb2⟩
  have HB2 := Aside0.mk (below_then HB1.out HB1.out.size (show Below w1.heap.size w1 w2 from below_then (below_alloc (Below.refl _ _) _) (by simp) hb2))
  clear hb2
  go_wp2_with fail
  refine (eggboxlaw19_num.calls 1 1 w2 rfl).mono ?_
  rintro e w3 ⟨rfl, nd, rfl⟩
  go_wp2_with fail
  refine (eggboxlaw19_num.calls 1 1 _ rfl).mono ?_
  rintro e w3 ⟨rfl, ne, rfl⟩
  go_wp2_with fail
  refine (eggboxlaw19_knows.calls k r _ H.out).mono ?_
  rintro e w4 ⟨rfl, hb4⟩
  have HB4 := Aside0.mk (below_then (pw_below_drewN HB2.out (nd + ne)) (by have := HB2.out.size; simpa using this) hb4)
  clear hb4
  go_wp2_with fail
  go_ret
  exact ⟨rfl, HB4.out⟩
/-- The plain law. -/
theorem law (l0 : List S97) (l1 : List Int) {P Q : Prop} (_ : P) (_ : Q) : Ev (fun k => f k l0 l1) true := HLaw.knows_ok
end Go.Proofs.Ytcbkihhpnndpkaa.HNil
