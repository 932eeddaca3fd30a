/- terms.turned: contract: a side from behind, by a pile of sides. -/
import Derived.Test.YtcbkihhpnndpkaaHFoldSigns
import Derived.Test.YtcbkihhpnndpkaaPTx1
import Derived.Laws.EntriesVeiled
import Derived.Outline
set_option linter.unusedVariables false
set_option linter.unusedSimpArgs false
namespace Go.Proofs.Ytcbkihhpnndpkaa.HTurned
open Go.RowKit Go.Proofs.YtcbkihhpnndpkaaW.PrintWords Go.Proofs.YtcbkihhpnndpkaaW.PrintLast Go.Proofs.YtcbkihhpnndpkaaW.PrintMore
open Go.Proofs.Ytcbkihhpnndpkaa Go.Proofs.Ytcbkihhpnndpkaa.PA Go.Proofs.Ytcbkihhpnndpkaa.HFoldSigns
attribute [local go_sem] max2_int min2_int max_two min_two max_three min_three max_four min_four

set_option maxHeartbeats 4000000 in
set_option maxRecDepth 100000 in
/-- join: a, then b, then a sign of the kind k. -/
theorem join_calls (a b : E) (k : Int) (A B : Option Addr) (ca cb : Nat) (w : World) (ha : Kd.C k97 w A a.length a) (la : a.length ≤ ca) (hb : Kd.C k97 w B b.length b) (lb : b.length ≤ cb) (hl : a.length + b.length ≤ 1000000) :
 Calls Try.prog 103 #[.slice A a.length ca, .slice B b.length cb, .int .i64 k] w fun e w' => ∃ v, e = .returned v ∧ Kd.R k97 97 w' w.heap.size (fun _ => True) v (a ++ b ++ [(⟨k, 0⟩ : S97)]) ∧ Below w.heap.size w w' := by
 have HA := Aside0.mk ha
 have HB := Aside0.mk hb
 clear ha hb
 go_enter Try.func103, Try.ntmps103
 go_wp2_with (first
  | ((with_reducible refine gate_builtin (b := .append) (xs := #[.const (.slice none 0 0), .tmp 7]) rfl ?_); at_builtin; refine Kd.R_append_rows k97 (w0 := w) w.heap.size rfl (.const (.slice none 0 0)) (.tmp 7) 22 97 (.agg #[(.int .i64 0), (.int .u8 0)]) 16 rfl Try.underlying22 info97 rfl (by decide) (by omega) (.slice none 0 0) [] a A a.length ca (fun _ => True) (fun _ => False) rfl rfl (Kd.R_nil _ _ _ _ _) HA.out (fun _ _ h => h) (fun _ h => h.elim) (fun _ _ => trivial) (Below.refl _ _) (Nat.le_refl _) (by simp; omega) ?_; intro v1 w1 ho1 hb1 hg1 hat1; have HO1 := Aside0.mk ho1; have HB1 := Aside0.mk hb1; clear ho1 hb1 hg1 hat1)
  | ((with_reducible refine gate_builtin (b := .append) (xs := #[.tmp 8, .tmp 9]) rfl ?_); at_builtin; refine Kd.R_append_rows k97 (w0 := w) w.heap.size rfl (.tmp 8) (.tmp 9) 22 97 (.agg #[(.int .i64 0), (.int .u8 0)]) 16 rfl Try.underlying22 info97 rfl (by decide) (by omega) v1 ([] ++ a) b B b.length cb (fun _ => True) (fun _ => False) rfl rfl HO1.out (Kd.C_below HB.out HB1.out) (fun _ _ h => h) (fun _ h => h.elim) (fun _ _ => trivial) HB1.out HB1.out.size (by simp; omega) ?_; intro v2 w2 ho2 hb2 hg2 hat2; have HO2 := Aside0.mk ho2; have HB2 := Aside0.mk hb2; clear ho2 hb2 hg2 hat2)
  | ((with_reducible refine gate_builtin (b := .append) (xs := #[.tmp 10, .tmp 13]) rfl ?_); at_builtin; refine Kd.R_append k97 (w0 := w) w.heap.size rfl (.tmp 10) (.tmp 13) 22 97 (.agg #[(.int .i64 0), (.int .u8 0)]) 16 rfl Try.underlying22 info97 rfl (by decide) (by omega) v2 ([] ++ a ++ b) (⟨k, 0⟩ : S97) [.int .i64 k, .int .u8 0] (fun _ => True) (fun _ => False) rfl rfl (k97_mkM _ _ _ (⟨k, 0⟩ : S97)) (fun _ h => h.elim) (fun _ _ => trivial) HO2.out HB2.out HB2.out.size (by simp; omega) ?_; intro v3 w3 ho3 hb3 hg3 hat3; have HO3 := Aside0.mk ho3; have HB3 := Aside0.mk hb3; clear ho3 hb3 hg3 hat3))
 go_ret
 exact ⟨_, rfl, by simpa using HO3.out, HB3.out⟩

def leafP (s : S97) : Option E := some [s]
def timesP (a b : E) : Option E := if a.length + b.length ≤ 1000000 then some (b ++ a ++ [(⟨3, 0⟩ : S97)]) else none
def omegaP (a : E) : Option E := if a.length ≤ 1000000 then some (a ++ [(⟨4, 0⟩ : S97)]) else none

set_option maxHeartbeats 2000000 in
set_option maxRecDepth 100000 in
theorem leaf_calls (w : World) : Leaf w leafP := by
 intro w' hb s r h
 exact Go.Proofs.Ytcbkihhpnndpkaa.PT.terms_turned_2.calls s.f0 s.f1 r w' h

/-- The cell of join, that the two others hold. -/
def Holds (p : Addr) (w : World) : Prop := w.cell? p = some (.func (.func 103) #[] #[])
theorem Holds.below {p : Addr} {w w' : World} (h : Holds p w) (hb : Below w.heap.size w w') : Holds p w' := stay hb h

set_option maxHeartbeats 2000000 in
set_option maxRecDepth 100000 in
theorem times_calls (p : Addr) (w : World) (hp : Holds p w) : Times p w timesP := by
 intro w' hb s t r A ca B cb hs ls ht lt h
 unfold timesP at h
 by_cases hl : s.length + t.length ≤ 1000000
 · rw [if_pos hl] at h
   obtain rfl := Option.some.inj h
   have HS := Aside0.mk hs
   have HT := Aside0.mk ht
   have hj : w'.cell? p = some (.func (.func 103) #[] #[]) := hp.below hb
   clear h hs ht hp hb
   go_enter Try.func105, Try.ntmps105
   go_wp2_with fail
   refine (join_calls t s 3 B A cb ca _ HT.out lt HS.out ls (by omega)).mono ?_
   rintro e w2 ⟨v, rfl, hv, hb2⟩
   have HV := Aside0.mk hv
   have HB2 := Aside0.mk hb2
   clear hv hb2
   go_wp2_with fail
   go_ret
   exact ⟨_, rfl, HV.out, HB2.out⟩
 · rw [if_neg hl] at h; cases h
set_option maxHeartbeats 2000000 in
set_option maxRecDepth 100000 in
theorem omega_calls (p : Addr) (w : World) (hp : Holds p w) : Omega p w omegaP := by
 intro w' hb s r A ca hs ls h
 unfold omegaP at h
 by_cases hl : s.length ≤ 1000000
 · rw [if_pos hl] at h
   obtain rfl := Option.some.inj h
   have HS := Aside0.mk hs
   have hj : w'.cell? p = some (.func (.func 103) #[] #[]) := hp.below hb
   clear h hs hp hb
   go_enter Try.func106, Try.ntmps106
   go_wp2_with fail
   refine (join_calls s [] 4 A none ca 0 _ HS.out ls (Kd.C_nil _ _) (Nat.le_refl _) (by simpa using hl)).mono ?_
   rintro e w2 ⟨v, rfl, hv, hb2⟩
   have HV := Aside0.mk hv
   have HB2 := Aside0.mk hb2
   clear hv hb2
   go_wp2_with fail
   go_ret
   exact ⟨_, rfl, by simpa using HV.out, HB2.out⟩
 · rw [if_neg hl] at h; cases h

set_option maxHeartbeats 2000000 in
set_option maxRecDepth 100000 in
theorem calls (w : World) (A0 : Option Addr) (c0 : Nat) (l : List S97) (hl : Kd.C k97 w A0 l.length l) (hc : l.length ≤ c0) (hn : l.length ≤ 400) (r : E) (h : run leafP timesP omegaP l [] = some r) :
 Calls Try.prog 49 #[.slice A0 l.length c0] w fun e w' => ∃ v, e = .returned v ∧ Kd.R k97 97 w' w.heap.size (fun _ => True) v r ∧ Below w.heap.size w w' := by
 have HL := Aside0.mk hl
 have HR := Aside0.mk h
 clear h hl
 go_enter Try.func49, Try.ntmps49
 go_wp2_with fail
 have hH : Holds ⟨w.heap.size, 0, none⟩ (w.alloc (.cells #[.func (.func 103) #[] #[]] 163)) := (blk_cell (blk_new w _) 0).trans rfl
 refine (HFoldSigns.calls leafP timesP omegaP ⟨w.heap.size, 0, none⟩ _ (leaf_calls _) (times_calls _ _ hH) (omega_calls _ _ hH) A0 c0 l (Kd.C_alloc HL.out _) hc hn r HR.out).mono ?_
 rintro e w2 ⟨v, rfl, hv, hb2⟩
 have HV := Aside0.mk (Kd.R_lower hv (show w.heap.size ≤ _ by simp))
 have HB2 := Aside0.mk (below_then (below_alloc (Below.refl _ _) _) (by simp) hb2)
 clear hv hb2 hH
 go_wp2_with fail
 go_ret
 exact ⟨_, rfl, HV.out, HB2.out⟩
end Go.Proofs.Ytcbkihhpnndpkaa.HTurned
