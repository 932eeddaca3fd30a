/- Several texts of this session in one: HFoldPiece, PFx0, PFx1, HSpell, PGx0, PGx1. -/
import Derived.Test.YtcbkihhpnndpkaaQ1
import Derived.Deep.CutBlock
import Derived.Deep.DeepCutAuto
import Derived.Deep.RegionHeld3
import Derived.IntWalk
import Derived.Outline
import Derived.Test.YtcbkihhpnndpkaaProg
import Derived.Below
import Derived.Deep.Draws
import Derived.Deep.AppendLies
import Derived.Maps.AppendAt
import Derived.OwnWalk
import Derived.Laws.BytesArg
import Derived.Laws.MakeOwn
import Derived.Laws.OwnMore
import Derived.Deep.OwnRows
import Derived.Tactics
import Derived.Lib.ConvBytes
import Derived.Laws.Slices
import Derived.WalkKit
import Derived.KernelRfl
import Derived.RowKit3
import Derived.Deep.LoopGhost
import Derived.Deep.QuietTactic
import Derived.BigQuiet
import Derived.WideLaws
import Derived.Laws.Rows
import Derived.Lib.AppendStr
import Derived.ArgAppend
import Derived.Laws.IdiomCopy
import Derived.OrdersHeld
import Derived.Laws.BitsLemmas
import Derived.RowKit
import Derived.Test.YtcbkihhpnndpkaaPAx3
import Derived.Test.YtcbkihhpnndpkaaWWords
import Derived.Test.YtcbkihhpnndpkaaWLast
import Derived.Test.YtcbkihhpnndpkaaWTab
import Derived.Test.YtcbkihhpnndpkaaWApart
import Derived.Test.YtcbkihhpnndpkaaWFoot
import Derived.Test.YtcbkihhpnndpkaaWKept
import Derived.Test.YtcbkihhpnndpkaaWShare
import Derived.Test.YtcbkihhpnndpkaaWN
import Derived.Test.YtcbkihhpnndpkaaWAt
import Derived.Test.YtcbkihhpnndpkaaWEqStruct
import Derived.Test.YtcbkihhpnndpkaaWRepsOne
import Derived.Test.YtcbkihhpnndpkaaWInv
import Derived.Test.YtcbkihhpnndpkaaWInvWords
import Derived.Test.YtcbkihhpnndpkaaWGuard
import Derived.Test.YtcbkihhpnndpkaaWMore
set_option linter.unusedVariables false
set_option linter.unusedSimpArgs false
namespace Go.Proofs.Ytcbkihhpnndpkaa.HFoldPiece
open Go.RowKit Go.Proofs.YtcbkihhpnndpkaaW.PrintWords Go.Proofs.YtcbkihhpnndpkaaW.PrintLast Go.Proofs.YtcbkihhpnndpkaaW.PrintMore
open Go.Proofs.Ytcbkihhpnndpkaa Go.Proofs.Ytcbkihhpnndpkaa.PA

/-- A text, and a mark. -/
abbrev P2 := ByteArray × Bool
def kP : Kd P2 := Kd.pair Kd.string Kd.bool
set_option maxRecDepth 100000 in
theorem sizeP : (Try.prog.info? 155).map (·.size) = some 2 := by kernel_rfl
theorem szP : kP.sz = 2 := rfl
theorem kP_mkM (w : World) (base : Nat) (ok : Nat → Prop) (x : P2) : kP.M w base ok x [.string x.1, .bool x.2] := ⟨[.string x.1], [.bool x.2], rfl, rfl, rfl⟩
theorem kP_openM {w : World} {base : Nat} {ok : Nat → Prop} {x : P2} {cs : List Value} (h : kP.M w base ok x cs) : cs = [.string x.1, .bool x.2] := by
 obtain ⟨_, _, rfl, rfl, rfl⟩ := h
 rfl
abbrev vP (x : P2) : Value := .agg #[.string x.1, .bool x.2]
theorem infoP : (Try.prog.info? 155).map (fun i => (i.zero, i.size, i.bytes)) = some (some (.agg #[(.string ⟨#[]⟩), (.bool false)]), 2, 24) := by kernel_rfl

/-- A sign onto the pile. -/
def put (leaf : S97 → Option P2) (times : P2 → P2 → Option P2) (omega : P2 → Option P2) (st : List P2) (s : S97) : Option (List P2) :=
 if s.f0 = 3 then (if 2 ≤ st.length then (times (st.getD (st.length - 2) (⟨#[]⟩, false)) (st.getD (st.length - 1) (⟨#[]⟩, false))).map (fun x => st.take (st.length - 2) ++ [x]) else none)
 else if s.f0 = 4 then (if 1 ≤ st.length then (omega (st.getD (st.length - 1) (⟨#[]⟩, false))).map (fun x => st.set (st.length - 1) x) else none)
 else (leaf s).map (fun x => st ++ [x])
def run (leaf : S97 → Option P2) (times : P2 → P2 → Option P2) (omega : P2 → Option P2) : List S97 → List P2 → Option P2
 | [], st => st.head?
 | s :: l, st => (put leaf times omega st s).bind (run leaf times omega l)

/-- The function f, with what it captured, does g to a value. -/
def Leaf (w : World) (g : S97 → Option P2) : Prop := ∀ w', Below w.heap.size w w' → ∀ s r, g s = some r →
 Calls Try.prog 98 #[.agg #[.int .i64 s.f0, .int .u8 s.f1]] w' fun e w'' => e = .returned (vP r) ∧ Below w'.heap.size w' w''
def Omega (w : World) (g : P2 → Option P2) : Prop := ∀ w', Below w.heap.size w w' → ∀ s r, g s = some r →
 Calls Try.prog 101 #[vP s] w' fun e w'' => e = .returned (vP r) ∧ Below w'.heap.size w' w''
def Times (w : World) (g : P2 → P2 → Option P2) : Prop := ∀ w', Below w.heap.size w w' → ∀ s t r, g s t = some r →
 Calls Try.prog 99 #[vP s, vP t] w' fun e w'' => e = .returned (vP r) ∧ Below w'.heap.size w' w''

/-- The pile, between two signs. -/
structure Pile (w W : World) (v : Value) (st : List P2) : Prop where
 bl : Below w.heap.size w W
 way : W.heap[w.heap.size]? = some (.cells #[.func (.func 98) #[] #[], .func (.func 99) #[] #[], .func (.func 101) #[] #[]] 161 (0, 0))
 res : W.heap[w.heap.size + 1]? = some (.cells #[.string ⟨#[]⟩, .bool false] 155 (0, 0))
 row : Kd.R kP 155 W (w.heap.size + 2) (fun _ => True) v st
theorem Pile.low {w W : World} {v : Value} {st : List P2} (h : Pile w W v st) : w.heap.size + 2 ≤ W.heap.size := by
 have := blk_lt h.res
 omega
theorem Pile.below {w W W' : World} {v : Value} {st : List P2} (h : Pile w W v st) (hb : Below W.heap.size W W') : Pile w W' v st :=
 ⟨below_then h.bl h.bl.size hb, blk_below h.way hb, blk_below h.res hb, Kd.R_below h.row hb⟩
theorem Pile.grown {w W W' : World} {v v' : Value} {st st' : List P2} (h : Pile w W v st) (hr : Kd.R kP 155 W' (w.heap.size + 2) (fun _ => True) v' st') (hg : W.grownBy W' v.ownBlock) : Pile w W' v' st' := by
 have hb := Kd.R_base h.row
 exact ⟨Below.grown h.bl hg h.bl.size (fun k hk => by have := hb k hk; omega), (hg.block _ (by have := h.low; omega) (fun e => by have := hb _ e.symm; omega)).trans h.way, (hg.block _ (by have := h.low; omega) (fun e => by have := hb _ e.symm; omega)).trans h.res, hr⟩

theorem Pile.at {w W : World} {g n c : Nat} {st : List P2} (h : Pile w W (.slice (some ⟨g, 0, none⟩) n c) st) (m : Nat) (hm : m < n) : W.cell? ⟨g, m * 2, none⟩ = some (.string (st.getD m (⟨#[]⟩, false)).1) ∧ W.cell? ⟨g, m * 2 + 1, none⟩ = some (.bool (st.getD m (⟨#[]⟩, false)).2) := by
 obtain ⟨cs, _, hM, hcc⟩ := Kd.R_getA h.row (⟨#[]⟩, false) (m : Int) (by omega) (by omega)
 rw [Int.toNat_natCast] at hM hcc
 obtain rfl := kP_openM hM
 have k0 := hcc 0 _ rfl
 have k1 := hcc 1 _ rfl
 rw [add_at, Nat.zero_add, szP, Nat.add_zero] at k0
 rw [add_at, Nat.zero_add, szP] at k1
 exact ⟨k0, k1⟩
theorem Pile.put {w W : World} {g n c : Nat} {st : List P2} (h : Pile w W (.slice (some ⟨g, 0, none⟩) n c) st) (m : Nat) (hm : m < n) (y : P2) : Pile w (W.setCells g (m * 2) [.string y.1, .bool y.2]) (.slice (some ⟨g, 0, none⟩) n c) (st.set m y) := by
 obtain ⟨cs, hcl, hM, hcc⟩ := Kd.R_getA h.row (⟨#[]⟩, false) (m : Int) (by omega) (by omega)
 obtain rfl := kP_openM hM
 obtain ⟨hr, hg⟩ := Kd.R_seg (j := 0) (seg := [.string y.1, .bool y.2]) (x' := y) h.row (m : Int) (by omega) (by omega) hcl (fun j u hu => by have q := hcc j u hu; rw [add_at, Nat.zero_add] at q; exact q) (by simp [szP]) (okp := fun _ => False) (by simpa using kP_mkM _ _ _ y) (fun _ hk => hk.elim)
 rw [Int.toNat_natCast, szP, Nat.add_zero] at hr hg
 exact h.grown hr hg
set_option maxRecDepth 100000 in
theorem Pile.store {w W : World} {g n c : Nat} {st : List P2} (h : Pile w W (.slice (some ⟨g, 0, none⟩) n c) st) (m : Nat) (hm : m < n) (y : P2) : (Instr.storeAt 155 (.pointer (some ⟨g, m * 2, none⟩)) (vP y)).run Try.prog W = .ok () (W.setCells g (m * 2) [.string y.1, .bool y.2]) := by
 have hn := (Kd.R_reads' h.row).1
 obtain ⟨_, inner, ho, hr⟩ := h.row
 rcases ho.2 with ⟨hv, _⟩ | ⟨g', cap', cur, hv, hb, hh, hnc, hcm, hcs, _⟩
 · cases hv
 · injection hv with ha _ hc
   injection ha with ha
   injection ha with hg'
   subst hg'; subst hc
   have hs : cur.size = c * 2 := hcs
   refine run_store_run 155 (vP y) _ hh rfl sizeP ?_ (by intro q hq; simp at hq; rcases hq with rfl | rfl <;> rfl)
   simp
   omega
theorem Pile.way2 {w W : World} {v : Value} {st : List P2} (h : Pile w W v st) : W.cell? ⟨w.heap.size, 2, none⟩ = some (.func (.func 101) #[] #[]) := (blk_cell h.way 2).trans rfl
theorem Pile.way1 {w W : World} {v : Value} {st : List P2} (h : Pile w W v st) : W.cell? ⟨w.heap.size, 1, none⟩ = some (.func (.func 99) #[] #[]) := (blk_cell h.way 1).trans rfl

set_option maxHeartbeats 400000 in
set_option maxRecDepth 100000 in
theorem calls (leaf : S97 → Option P2) (times : P2 → P2 → Option P2) (omega : P2 → Option P2) (w : World) (h1 : Leaf w leaf) (h2 : Times w times) (h3 : Omega w omega)
 (A0 : Option Addr) (c0 : Nat) (l : List S97) (hl : Kd.C k97 w A0 l.length l) (hc : l.length ≤ c0) (hn : l.length ≤ 400) (r : P2) (h : run leaf times omega l [] = some r) :
 Calls Try.prog 102 #[.agg #[.func (.func 98) #[] #[], .func (.func 99) #[] #[], .func (.func 101) #[] #[]], .slice A0 l.length c0] w fun e w' => e = .returned (vP r) ∧ Below w.heap.size w w' := by
 have H1 := Aside0.mk h1
 have H2 := Aside0.mk h2
 have H3 := Aside0.mk h3
 have HC := Aside0.mk hl
 have HR := Aside0.mk h
 clear h1 h2 h3 hl h
 go_enter Try.func102, Try.ntmps102
 go_wp2_with fail
 go_loopw [5, 12] (fun v5 v12 wr => ∃ (i : Nat) (st : List P2), v12 = .int .i64 i ∧ i ≤ l.length ∧ Aside0 (run leaf times omega (l.drop i) st = some r) ∧ Aside0 (st.length ≤ i) ∧ Aside0 (Pile w wr v5 st)) (fun _ v12 _ => l.length - (intOf v12).toNat)
 case atStart => exact ⟨0, [], rfl, Nat.zero_le _, HR, ⟨Nat.zero_le _⟩, ⟨below_alloc (below_alloc (Below.refl _ _) _) _, blk_alloc (blk_new w _) _, by have := blk_new (w.alloc (.cells #[.func (.func 98) #[] #[], .func (.func 99) #[] #[], .func (.func 101) #[] #[]] 161)) (.cells #[.string ⟨#[]⟩, .bool false] 155); simpa using this, Kd.R_nil _ _ _ _ _⟩⟩
 case round =>
  obtain ⟨i, st, rfl, hi, HR', HS, HP⟩ := hrel
  clear HR
  obtain ⟨A, c, rfl⟩ := Kd.R_slice HP.out.row
  by_cases hlt : i < l.length
  · obtain ⟨ad, he, hx0, hx1⟩ := at_T97 (Kd.C_below HC.out HP.out.bl) (i : Int) (by omega) (by omega)
    obtain rfl := he
    rw [Int.toNat_natCast] at hx0 hx1
    have hd : l.drop i = rd_T97 l i :: l.drop (i + 1) := by
     rw [List.drop_eq_getElem_cons hlt]
     simp [rd_T97, hlt]
    have h := HR'.out
    rw [hd] at h
    clear HR' hd
    simp only [run] at h
    cases hp : put leaf times omega st (rd_T97 l i) with
    | none => rw [hp] at h; cases h
    | some st' =>
    rw [hp] at h
    have HN := Aside0.mk (show run leaf times omega (l.drop (i + 1)) st' = some r from h)
    clear h
    unfold put at hp
    generalize rd_T97 l i = s at *
    have p1 : (0 ≤ (i : Int)) = True := eq_true (by omega)
    have q1 : ((i : Int) < (l.length : Int)) = True := eq_true (by omega)
    have HQ := HP.out.below (below_alloc (Below.refl _ _) (.cells #[.int .i64 s.f0, .int .u8 s.f1] 97))
    have hw0 : (wr.alloc (.cells #[.int .i64 s.f0, .int .u8 s.f1] 97)).cell? ⟨w.heap.size, 0, none⟩ = some (.func (.func 98) #[] #[]) := (blk_cell HQ.way 0).trans rfl
    have hw1 : (wr.alloc (.cells #[.int .i64 s.f0, .int .u8 s.f1] 97)).cell? ⟨w.heap.size, 1, none⟩ = some (.func (.func 99) #[] #[]) := (blk_cell HQ.way 1).trans rfl
    have hw2 : (wr.alloc (.cells #[.int .i64 s.f0, .int .u8 s.f1] 97)).cell? ⟨w.heap.size, 2, none⟩ = some (.func (.func 101) #[] #[]) := (blk_cell HQ.way 2).trans rfl
    have HQ := Aside0.mk HQ
    by_cases k3 : s.f0 = 3
    · rw [if_pos k3] at hp
      have e3 : (s.f0 == 3) = true := beq_iff_eq.mpr k3
      clear k3
      by_cases hpos : 2 ≤ st.length
      · rw [if_pos hpos] at hp
        obtain ⟨g, cap, hv, hg1, hg2, _⟩ := Kd.R_form HP.out.row (by omega)
        injection hv with ha _ hcap
        subst ha hcap
        obtain ⟨m, hm⟩ : ∃ m, st.length = m + 2 := ⟨st.length - 2, by omega⟩
        rw [hm] at hp HP HQ
        rw [show m + 2 - 2 = m from rfl, show m + 2 - 1 = m + 1 from rfl] at hp
        cases hx : times (st.getD m (⟨#[]⟩, false)) (st.getD (m + 1) (⟨#[]⟩, false)) with
        | none => rw [hx] at hp; cases hp
        | some y =>
        rw [hx] at hp
        obtain rfl := Option.some.inj hp
        have kk := HQ.out.at m (by omega)
        have kl := HQ.out.at (m + 1) (by omega)
        generalize hgx : st.getD m (⟨#[]⟩, false) = x at *
        generalize hgz : st.getD (m + 1) (⟨#[]⟩, false) = z at *
        obtain ⟨k0, k1⟩ := kk
        obtain ⟨k2, k3⟩ := kl
        have HG := Aside0.mk (And.intro hgx hgz)
        have HX := Aside0.mk hx
        have HM := Aside0.mk hm
        have HGW := Aside0.mk (show g < wr.heap.size from hg2)
        have hb : (m : Int) ≤ 400 := by have := HS.out; omega
        have hroom : m + 2 ≤ c := (Kd.R_reads' HQ.out.row).2.1
        obtain ⟨i0, hi0, _, hsz, _⟩ := info_parts infoP
        rw [hm]
        clear hx hp hm hpos hgx hgz
        go_upto_region 9 with fail
        generalize (wr.alloc (.cells #[.int .i64 s.f0, .int .u8 s.f1] 97)) = w1 at *
        have HLT := Aside0.mk (show g < w1.heap.size from Kd.R_lt HQ.out.row g rfl)
        have hs1 : IntKind.i64.wrap (m : Int) = (m : Int) := IntWalk.i64_in _ (by omega)
        have hs0 : IntKind.i64.wrap ((m : Int) + 2 - 2) = (m : Int) := by rw [show (m : Int) + 2 - 2 = m by omega]; exact hs1
        have hs2 : IntKind.i64.wrap ((m : Int) + 1) = (m : Int) + 1 := IntWalk.i64_in _ (by omega)
        have hs3 : IntKind.i64.wrap ((m : Int) + 2 - 1) = (m : Int) + 1 := by rw [show (m : Int) + 2 - 1 = m + 1 by omega]; exact hs2
        have hs4 : ((m : Int)).toNat = m := by omega
        have hs5 : ((m : Int) + 1).toNat = m + 1 := by omega
        have hs6 : (0 : Int) ≤ (m : Int) := by omega
        have hs7 : (m : Int) < (m : Int) + 2 := by omega
        have hs8 : (0 : Int) ≤ (m : Int) + 1 := by omega
        have hs9 : (m : Int) + 1 < (m : Int) + 2 := by omega
        go_cut [9] (fun v9 wd => ∃ b : Nat, v9 = .pointer (some ⟨b, 0, none⟩) ∧ Aside0 (wd.heap[b]? = some (.cells #[.string y.1, .bool y.2] 155 (0, 0))) ∧ Aside0 (g < b) ∧ Aside0 (Pile w wd (.slice (some ⟨g, 0, none⟩) (m + 2) c) st))
        case first =>
         refine start_ (n := 15) (S := fun w' => w'.cell? ⟨w.heap.size, 1, none⟩ = some (.func (.func 99) #[] #[]) ∧ w'.cell? ⟨g, m * 2, none⟩ = some (.string x.1) ∧ w'.cell? ⟨g, m * 2 + 1, none⟩ = some (.bool x.2) ∧ w'.cell? ⟨g, (m + 1) * 2, none⟩ = some (.string z.1) ∧ w'.cell? ⟨g, (m + 1) * 2 + 1, none⟩ = some (.bool z.2)) (ds := [14]) #[false, false, false, false, false, false, false, false, false, false, false, false, false, false, false] (by kernel_rfl) rfl rfl ⟨hw1, k0, k1, k2, k3⟩ (fun hHeld => ?_)
         refine pure_ (i := 0) (N := (some 29)) (v := ?_) (a' := ?_) #[true, false, false, false, false, false, false, false, false, false, false, false, false, false, false] rfl rfl (by kernel_rfl) (fun _ _ _ h => h) (Or.inl ⟨by rfl, ?_⟩) ?_ ?_
         rotate_left
         · intro w'
           go_simp
           with_reducible rfl
         rotate_left
         · simp only [Act.put, sA_, sZ_, sS_, i64_w, i32_w]
           rfl
         refine pure_ (i := 2) (N := (some 31)) (v := ?_) (a' := ?_) #[true, false, true, false, false, false, false, false, false, false, false, false, false, false, false] rfl rfl (by kernel_rfl) (fun _ _ _ h => h) (Or.inl ⟨by rfl, ?_⟩) ?_ ?_
         rotate_left
         · intro w'
           go_simp
           with_reducible rfl
         rotate_left
         · simp only [Act.put, sA_, sZ_, sS_, i64_w, i32_w]
           rfl
         refine pure_ (i := 3) (N := (some 32)) (v := ?_) (a' := ?_) #[true, false, true, true, false, false, false, false, false, false, false, false, false, false, false] rfl rfl (by kernel_rfl) (fun _ _ _ h => h) (Or.inl ⟨by rfl, ?_⟩) ?_ ?_
         rotate_left
         · intro w'
           go_simp
           with_reducible rfl
         rotate_left
         · simp only [Act.put, sA_, sZ_, sS_, i64_w, i32_w]
           rfl
         refine pure_ (i := 4) (N := (some 33)) (v := ?_) (a' := ?_) #[true, false, true, true, true, false, false, false, false, false, false, false, false, false, false] rfl rfl (by kernel_rfl) (fun _ _ _ h => h) (Or.inl ⟨by rfl, ?_⟩) ?_ ?_
         rotate_left
         · intro w'
           go_simp
           with_reducible rfl
         rotate_left
         · simp only [Act.put, sA_, sZ_, sS_, i64_w, i32_w]
           rfl
         refine pure_ (i := 5) (N := (some 34)) (v := ?_) (a' := ?_) #[true, false, true, true, true, true, false, false, false, false, false, false, false, false, false] rfl rfl (by kernel_rfl) (fun _ _ _ h => h) (Or.inl ⟨by rfl, ?_⟩) ?_ ?_
         rotate_left
         · intro w'
           go_simp
           with_reducible rfl
         rotate_left
         · simp only [Act.put, sA_, sZ_, sS_, i64_w, i32_w]
           rfl
         refine pure_ (i := 7) (N := (some 36)) (v := ?_) (a' := ?_) #[true, false, true, true, true, true, false, true, false, false, false, false, false, false, false] rfl rfl (by kernel_rfl) (fun _ _ _ h => h) (Or.inl ⟨by rfl, ?_⟩) ?_ ?_
         rotate_left
         · intro w'
           go_simp
           with_reducible rfl
         rotate_left
         · simp only [Act.put, sA_, sZ_, sS_, i64_w, i32_w]
           rfl
         refine pure_ (i := 8) (N := (some 37)) (v := ?_) (a' := ?_) #[true, false, true, true, true, true, false, true, true, false, false, false, false, false, false] rfl rfl (by kernel_rfl) (fun _ _ _ h => h) (Or.inl ⟨by rfl, ?_⟩) ?_ ?_
         rotate_left
         · intro w'
           go_simp
           with_reducible rfl
         rotate_left
         · simp only [Act.put, sA_, sZ_, sS_, i64_w, i32_w]
           rfl
         refine pure_ (i := 9) (N := (some 38)) (v := ?_) (a' := ?_) #[true, false, true, true, true, true, false, true, true, true, false, false, false, false, false] rfl rfl (by kernel_rfl) (fun _ _ _ h => h) (Or.inl ⟨by rfl, ?_⟩) ?_ ?_
         rotate_left
         · intro w'
           go_simp
           with_reducible rfl
         rotate_left
         · simp only [Act.put, sA_, sZ_, sS_, i64_w, i32_w]
           rfl
         refine pure_ (i := 10) (N := (some 39)) (v := ?_) (a' := ?_) #[true, false, true, true, true, true, false, true, true, true, true, false, false, false, false] rfl rfl (by kernel_rfl) (fun _ _ _ h => h) (Or.inl ⟨by rfl, ?_⟩) ?_ ?_
         rotate_left
         · intro w'
           go_simp
           with_reducible rfl
         rotate_left
         · simp only [Act.put, sA_, sZ_, sS_, i64_w, i32_w]
           rfl
         refine take_ (i := 1) (N := (some 30)) (v := ?_) (a' := ?_) #[true, true, true, true, true, true, false, true, true, true, true, false, false, false, false] rfl rfl (by kernel_rfl) (fun _ _ _ h => h) (Or.inl ⟨by rfl, ?_⟩) hHeld ?_ ?_
         rotate_left
         · rintro w' ⟨s0, s1, s2, s3, s4⟩
           go_simp
           with_reducible rfl
         rotate_left
         · simp only [Act.put, sA_, sZ_, sS_, i64_w, i32_w]
           rfl
         refine take_ (i := 6) (N := (some 35)) (v := ?_) (a' := ?_) #[true, true, true, true, true, true, true, true, true, true, true, false, false, false, false] rfl rfl (by kernel_rfl) (fun _ _ _ h => h) (Or.inl ⟨by rfl, ?_⟩) hHeld ?_ ?_
         rotate_left
         · rintro w' ⟨s0, s1, s2, s3, s4⟩
           go_simp
           with_reducible rfl
         rotate_left
         · simp only [Act.put, sA_, sZ_, sS_, i64_w, i32_w]
           rfl
         refine take_ (i := 11) (N := (some 40)) (v := ?_) (a' := ?_) #[true, true, true, true, true, true, true, true, true, true, true, true, false, false, false] rfl rfl (by kernel_rfl) (fun _ _ _ h => h) (Or.inl ⟨by rfl, ?_⟩) hHeld ?_ ?_
         rotate_left
         · rintro w' ⟨s0, s1, s2, s3, s4⟩
           go_simp
           with_reducible rfl
         rotate_left
         · simp only [Act.put, sA_, sZ_, sS_, i64_w, i32_w]
           rfl
         refine two_ (i := 12) (j := 13) (Ni := (some 41)) (Nj := (some 9)) #[true, true, true, true, true, true, true, true, true, true, true, true, true, false, false] #[true, true, true, true, true, true, true, true, true, true, true, true, false, true, false] rfl rfl rfl rfl (by kernel_rfl) (by decide) (by decide) (fun K hK => ?_) (fun K hK => ?_)
         · have HQ1 := Aside0.mk (HQ.out.below (below_drew (Below.refl _ _)))
           refine call_ 99 #[vP x, vP z] (by rfl) rfl (by go_simp) ?_
           refine (H2.out _ HQ1.out.bl _ _ _ HX.out).mono ?_
           rintro e w2 ⟨rfl, hb2⟩
           refine ⟨_, rfl, ?_⟩
           have HP2 := Aside0.mk (HQ1.out.below hb2)
           have HB2 := Aside0.mk hb2
           clear hb2
           refine hK.out _ _ (⟨HP2.out.way1, by have q := HP2.out.at (n := m + 2) m (by omega); rw [HG.out.1] at q; exact q.1, by have q := HP2.out.at (n := m + 2) m (by omega); rw [HG.out.1] at q; exact q.2, by have q := HP2.out.at (n := m + 2) (m + 1) (by omega); rw [HG.out.2] at q; exact q.1, by have q := HP2.out.at (n := m + 2) (m + 1) (by omega); rw [HG.out.2] at q; exact q.2⟩) (fun hHeld => ?_)
           clear hK K
           refine norm_ (a' := ?_) ?_ ?_
           rotate_left
           · show Act.put _ (some 41) _ = _
             simp only [Act.put, sA_, sZ_, sS_, i64_w, i32_w]
             rfl
           refine one_ (i := 13) (N := (some 9)) #[true, true, true, true, true, true, true, true, true, true, true, true, true, true, false] rfl rfl (by kernel_rfl) (by decide) (fun K hK => ?_)
           refine value_ (v := .pointer (some ⟨w2.heap.size, 0, none⟩)) (w1 := w2.alloc (.cells #[.string ⟨#[]⟩, .bool false] 155)) (by rfl) rfl (by go_simp) ?_
           have HP3 := Aside0.mk (HP2.out.below (below_alloc (Below.refl _ _) (.cells #[.string ⟨#[]⟩, .bool false] 155)))
           refine hK.out _ _ (⟨HP3.out.way1, by have q := HP3.out.at (n := m + 2) m (by omega); rw [HG.out.1] at q; exact q.1, by have q := HP3.out.at (n := m + 2) m (by omega); rw [HG.out.1] at q; exact q.2, by have q := HP3.out.at (n := m + 2) (m + 1) (by omega); rw [HG.out.2] at q; exact q.1, by have q := HP3.out.at (n := m + 2) (m + 1) (by omega); rw [HG.out.2] at q; exact q.2⟩) (fun hHeld => ?_)
           clear hK K
           refine norm_ (a' := ?_) ?_ ?_
           rotate_left
           · show Act.put _ (some 9) _ = _
             simp only [Act.put, sA_, sZ_, sS_, i64_w, i32_w]
             rfl
           refine last_ (i := 14) (N := none) #[true, true, true, true, true, true, true, true, true, true, true, true, true, true, true] rfl rfl (by kernel_rfl) (by decide) (fun K hK => ?_)
           have hh : (w2.alloc (.cells #[.string ⟨#[]⟩, .bool false] 155)).heap[w2.heap.size]? = some (.cells #[.string ⟨#[]⟩, .bool false] 155 (0, 0)) := blk_new w2 (.cells #[.string ⟨#[]⟩, .bool false] 155)
           refine skip_ (w1 := (w2.alloc (.cells #[.string ⟨#[]⟩, .bool false] 155)).setCells (w2.heap.size) 0 [.string y.1, .bool y.2]) (by rfl) rfl ?_ ?_
           · have hrun := run_store_run (P := Try.prog) (o := 0) 155 (vP y) [.string y.1, .bool y.2] hh rfl sizeP (by simp) (by intro q hq; simp at hq; rcases hq with rfl | rfl <;> rfl)
             simp [execOp, Act.eval, hrun]
           refine hK.out _ _ ?_
           clear hK K
           refine done_ (by kernel_rfl) ?_
           go_wp2_with fail
           go_meet
           exact ⟨w2.heap.size, rfl, ⟨blk_put (cs := #[.string y.1, .bool false]) (blk_put (cs := #[.string ⟨#[]⟩, .bool false]) hh 0 _ rfl) 1 _ rfl⟩, ⟨Kd.R_lt HP2.out.row g rfl⟩, ⟨HP2.out.below (below_set (below_set (below_alloc (Below.refl _ _) (.cells #[.string ⟨#[]⟩, .bool false] 155)) (Nat.le_refl _)) (Nat.le_refl _))⟩⟩
         · refine value_ (v := .pointer (some ⟨w1.heap.size, 0, none⟩)) (w1 := w1.drew.alloc (.cells #[.string ⟨#[]⟩, .bool false] 155)) (by rfl) rfl (by go_simp) ?_
           have HQ1 := Aside0.mk (HQ.out.below (below_alloc (below_drew (Below.refl _ _)) (.cells #[.string ⟨#[]⟩, .bool false] 155)))
           refine hK.out _ _ (⟨HQ1.out.way1, by have q := HQ1.out.at (n := m + 2) m (by omega); rw [HG.out.1] at q; exact q.1, by have q := HQ1.out.at (n := m + 2) m (by omega); rw [HG.out.1] at q; exact q.2, by have q := HQ1.out.at (n := m + 2) (m + 1) (by omega); rw [HG.out.2] at q; exact q.1, by have q := HQ1.out.at (n := m + 2) (m + 1) (by omega); rw [HG.out.2] at q; exact q.2⟩) (fun hHeld => ?_)
           clear hK K
           refine norm_ (a' := ?_) ?_ ?_
           rotate_left
           · show Act.put _ (some 9) _ = _
             simp only [Act.put, sA_, sZ_, sS_, i64_w, i32_w]
             rfl
           refine one_ (i := 12) (N := (some 41)) #[true, true, true, true, true, true, true, true, true, true, true, true, true, true, false] rfl rfl (by kernel_rfl) (by decide) (fun K hK => ?_)
           refine call_ 99 #[vP x, vP z] (by rfl) rfl (by go_simp) ?_
           refine (H2.out _ HQ1.out.bl _ _ _ HX.out).mono ?_
           rintro e w2 ⟨rfl, hb2⟩
           refine ⟨_, rfl, ?_⟩
           have HP2 := Aside0.mk (HQ1.out.below hb2)
           have HB2 := Aside0.mk hb2
           clear hb2
           refine hK.out _ _ (⟨HP2.out.way1, by have q := HP2.out.at (n := m + 2) m (by omega); rw [HG.out.1] at q; exact q.1, by have q := HP2.out.at (n := m + 2) m (by omega); rw [HG.out.1] at q; exact q.2, by have q := HP2.out.at (n := m + 2) (m + 1) (by omega); rw [HG.out.2] at q; exact q.1, by have q := HP2.out.at (n := m + 2) (m + 1) (by omega); rw [HG.out.2] at q; exact q.2⟩) (fun hHeld => ?_)
           clear hK K
           refine norm_ (a' := ?_) ?_ ?_
           rotate_left
           · show Act.put _ (some 41) _ = _
             simp only [Act.put, sA_, sZ_, sS_, i64_w, i32_w]
             rfl
           refine last_ (i := 14) (N := none) #[true, true, true, true, true, true, true, true, true, true, true, true, true, true, true] rfl rfl (by kernel_rfl) (by decide) (fun K hK => ?_)
           have hh : w2.heap[w1.heap.size]? = some (.cells #[.string ⟨#[]⟩, .bool false] 155 (0, 0)) := blk_below (blk_new w1.drew (.cells #[.string ⟨#[]⟩, .bool false] 155)) HB2.out
           refine skip_ (w1 := w2.setCells (w1.heap.size) 0 [.string y.1, .bool y.2]) (by rfl) rfl ?_ ?_
           · have hrun := run_store_run (P := Try.prog) (o := 0) 155 (vP y) [.string y.1, .bool y.2] hh rfl sizeP (by simp) (by intro q hq; simp at hq; rcases hq with rfl | rfl <;> rfl)
             simp [execOp, Act.eval, hrun]
           refine hK.out _ _ ?_
           clear hK K
           refine done_ (by kernel_rfl) ?_
           go_wp2_with fail
           go_meet
           exact ⟨w1.heap.size, rfl, ⟨blk_put (cs := #[.string y.1, .bool false]) (blk_put (cs := #[.string ⟨#[]⟩, .bool false]) hh 0 _ rfl) 1 _ rfl⟩, ⟨HLT.out⟩, ⟨HQ.out.below (below_set (below_set (below_then (below_alloc (below_drew (Below.refl _ _)) (.cells #[.string ⟨#[]⟩, .bool false] 155)) (by simp) HB2.out) (Nat.le_refl _)) (Nat.le_refl _))⟩⟩
        case rest =>
         clear hw0 hw1 hw2 k0 k1 k2 k3 HP HQ HX
         obtain ⟨b, rfl, HBX, HGB, HP3⟩ := hcut
         have r0 : wc.cell? ⟨b, 0, none⟩ = some (.string y.1) := (blk_cell HBX.out 0).trans rfl
         have r1 : wc.cell? ⟨b, 1, none⟩ = some (.bool y.2) := (blk_cell HBX.out 1).trans rfl
         have hcut2 := cut_to (P := Try.prog) 205 155 .i64 Try.underlying205 hi0 (some ⟨g, 0, none⟩) (m + 2) c (m : Int) (by omega) (by omega) hroom
         rw [Int.toNat_natCast] at hcut2
         have HT : Pile w wc.drew (.slice (some ⟨g, 0, none⟩) m c) (st.take m) := by
          have q := HP3.out.below (below_drew (Below.refl _ _))
          exact ⟨q.bl, q.way, q.res, Kd.R_take q.row (by have := HM.out; omega)⟩
         have HT := Aside0.mk HT
         have HL := Aside0.mk HP3.out.low
         go_upto_region 10 with fail
         refine start_ (n := 8) (S := fun w' => w'.cell? ⟨b, 0, none⟩ = some (.string y.1) ∧ w'.cell? ⟨b, 1, none⟩ = some (.bool y.2)) (ds := [6]) #[false, false, false, false, false, false, false, false] (by kernel_rfl) rfl rfl ⟨r0, r1⟩ (fun hHeld => ?_)
         refine pure_ (i := 0) (N := (some 42)) (v := ?_) (a' := ?_) #[true, false, false, false, false, false, false, false] rfl rfl (by kernel_rfl) (fun _ _ _ h => h) (Or.inl ⟨by rfl, ?_⟩) ?_ ?_
         rotate_left
         · intro w'
           go_simp
           with_reducible rfl
         rotate_left
         · simp only [Act.put, sA_, sZ_, sS_, i64_w, i32_w]
           rfl
         refine pure_ (i := 1) (N := (some 43)) (v := ?_) (a' := ?_) #[true, true, false, false, false, false, false, false] rfl rfl (by kernel_rfl) (fun _ _ _ h => h) (Or.inl ⟨by rfl, ?_⟩) ?_ ?_
         rotate_left
         · intro w'
           go_simp
           with_reducible rfl
         rotate_left
         · simp only [Act.put, sA_, sZ_, sS_, i64_w, i32_w]
           rfl
         refine pure_ (i := 2) (N := (some 44)) (v := ?_) (a' := ?_) #[true, true, true, false, false, false, false, false] rfl rfl (by kernel_rfl) (fun _ _ _ h => h) (Or.inl ⟨by rfl, ?_⟩) ?_ ?_
         rotate_left
         · intro w'
           go_simp
           with_reducible rfl
         rotate_left
         · simp only [Act.put, sA_, sZ_, sS_, i64_w, i32_w]
           rfl
         refine pure_ (i := 3) (N := (some 45)) (v := ?_) (a' := ?_) #[true, true, true, true, false, false, false, false] rfl rfl (by kernel_rfl) (fun _ _ _ h => h) (Or.inl ⟨by rfl, ?_⟩) ?_ ?_
         rotate_left
         · intro w'
           go_simp
           with_reducible rfl
         rotate_left
         · simp only [Act.put, sA_, sZ_, sS_, i64_w, i32_w]
           rfl
         refine take_ (i := 4) (N := (some 46)) (v := ?_) (a' := ?_) #[true, true, true, true, true, false, false, false] rfl rfl (by kernel_rfl) (fun _ _ _ h => h) (Or.inl ⟨by rfl, ?_⟩) hHeld ?_ ?_
         rotate_left
         · rintro w' ⟨s0, s1⟩
           go_simp
           with_reducible rfl
         rotate_left
         · simp only [Act.put, sA_, sZ_, sS_, i64_w, i32_w]
           rfl
         refine one_ (i := 5) (N := (some 47)) #[true, true, true, true, true, true, false, false] rfl rfl (by kernel_rfl) (by decide) (fun K hK => ?_)
         refine value_ (v := .slice (some ⟨wc.drew.heap.size, 0, none⟩) 1 1) (w1 := wc.drew.alloc (.cells #[.string y.1, .bool y.2] 155)) (by rfl) rfl (by go_simp) ?_
         refine hK.out _ _ (⟨(blk_cell (blk_alloc HBX.out _) 0).trans rfl, (blk_cell (blk_alloc HBX.out _) 1).trans rfl⟩) (fun hHeld => ?_)
         clear hK K
         refine norm_ (a' := ?_) ?_ ?_
         rotate_left
         · show Act.put _ (some 47) _ = _
           simp only [Act.put, sA_, sZ_, sS_, i64_w, i32_w]
           rfl
         refine last_ (i := 6) (N := (some 48)) #[true, true, true, true, true, true, true, false] rfl rfl (by kernel_rfl) (by decide) (fun K hK => ?_)
         refine Kd.R_append_step kP (w0 := wc.drew) (w.heap.size + 2) (by rfl) (.tmp 45) (.tmp 47) 205 155 (.agg #[(.string ⟨#[]⟩), (.bool false)]) 24 rfl Try.underlying205 infoP rfl (by decide) (by omega) (.slice (some ⟨g, 0, none⟩) m c) (st.take m) y [.string y.1, .bool y.2] (fun _ => True) (fun _ => False) rfl rfl (kP_mkM _ _ _ _) (fun _ hk => hk.elim) (fun _ _ => trivial) HT.out.row (Below.refl _ _) HL.out (by rw [List.length_take]; omega) ?_
         intro v5 w5 ho5 hb5 hg5 hat5
         refine hK.out _ _ ?_
         clear hK K
         refine norm_ (a' := ?_) ?_ ?_
         rotate_left
         · show Act.put _ (some 48) _ = _
           simp only [Act.put, sA_, sZ_, sS_, i64_w, i32_w]
           rfl
         refine pure_ (i := 7) (N := (some 5)) (v := ?_) (a' := ?_) #[true, true, true, true, true, true, true, true] rfl rfl (by kernel_rfl) (fun _ _ _ h => h) (Or.inl ⟨by rfl, ?_⟩) ?_ ?_
         rotate_left
         · intro w'
           go_simp
           with_reducible rfl
         rotate_left
         · simp only [Act.put, sA_, sZ_, sS_, i64_w, i32_w]
           rfl
         refine done_ (by kernel_rfl) ?_
         clear hs0 hs1 hs2 hs3 hs4 hs5 hs6 hs7 hs8 hs9 r0 r1 hcut2
         go_wp2_with fail
         have HF := Aside0.mk (HT.out.grown ho5 hg5)
         have HZ : (st.take m ++ [y]).length = m + 1 := by rw [List.length_append, List.length_take]; have := HM.out; simp; omega
         have HZ := Aside0.mk HZ
         clear ho5 hb5 hg5 hat5
         go_roundw
         case rel => exact ⟨i + 1, st.take m ++ [y], by go_num, by omega, HN, ⟨by have := HS.out; have := HZ.out; have := HM.out; omega⟩, HF⟩
         case measure => simp [intOf]; omega
      · rw [if_neg hpos] at hp; cases hp
    · rw [if_neg k3] at hp
      have e3 : (s.f0 == 3) = false := beq_eq_false_iff_ne.mpr k3
      by_cases k4 : s.f0 = 4
      · rw [if_pos k4] at hp
        have e4 : (s.f0 == 4) = true := beq_iff_eq.mpr k4
        clear k3 k4
        by_cases hpos : 1 ≤ st.length
        · rw [if_pos hpos] at hp
          obtain ⟨g, cap, hv, hg1, hg2, _⟩ := Kd.R_form HP.out.row hpos
          injection hv with ha _ hcap
          subst ha hcap
          obtain ⟨m, hm⟩ : ∃ m, st.length = m + 1 := ⟨st.length - 1, by omega⟩
          rw [hm] at hp HP HQ
          cases hx : omega (st.getD (m + 1 - 1) (⟨#[]⟩, false)) with
          | none => rw [hx] at hp; cases hp
          | some y =>
          rw [hx] at hp
          obtain rfl := Option.some.inj hp
          rw [show m + 1 - 1 = m from rfl] at hx
          have kk := HQ.out.at m (by omega)
          generalize hgx : st.getD m (⟨#[]⟩, false) = x at *
          obtain ⟨k0, k1⟩ := kk
          have HG := Aside0.mk hgx
          clear hgx
          have HX := Aside0.mk hx
          have HM := Aside0.mk hm
          have p2 : (0 ≤ (m : Int)) = True := eq_true (by omega)
          have q2 : ((m : Int) < (m : Int) + 1) = True := eq_true (by omega)
          rw [hm]
          clear hx hp hm hpos
          go_upto_region 12 with fail
          generalize (wr.alloc (.cells #[.int .i64 s.f0, .int .u8 s.f1] 97)) = w1 at *
          have hb : (m : Int) ≤ 400 := by have := HM.out; have := HS.out; omega
          have hs1 : IntKind.i64.wrap (m : Int) = (m : Int) := IntWalk.i64_in _ (by omega)
          have hs0 : IntKind.i64.wrap ((m : Int) + 1 - 1) = (m : Int) := by rw [show (m : Int) + 1 - 1 = m by omega]; exact hs1
          have hs2 : (0 : Int) ≤ (m : Int) := by omega
          have hs3 : (m : Int) < (m : Int) + 1 := by omega
          have hs4 : ((m : Int)).toNat = m := by omega
          have hi2 := World.new_ne w1 ⟨g, m * 2, none⟩ k0
          refine start_ (n := 13) (S := fun w' => w'.cell? ⟨w.heap.size, 2, none⟩ = some (.func (.func 101) #[] #[]) ∧ w'.cell? ⟨g, m * 2, none⟩ = some (.string x.1) ∧ w'.cell? ⟨g, m * 2 + 1, none⟩ = some (.bool x.2)) (ds := [12]) #[false, false, false, false, false, false, false, false, false, false, false, false, false] (by kernel_rfl) rfl rfl ⟨hw2, k0, k1⟩ (fun hHeld => ?_)
          refine pure_ (i := 0) (N := (some 51)) (v := ?_) (a' := ?_) #[true, false, false, false, false, false, false, false, false, false, false, false, false] rfl rfl (by kernel_rfl) (fun _ _ _ h => h) (Or.inl ⟨by rfl, ?_⟩) ?_ ?_
          rotate_left
          · intro w'
            go_simp
            with_reducible rfl
          rotate_left
          · simp only [Act.put, sA_, sZ_, sS_, i64_w, i32_w]
            rfl
          refine pure_ (i := 1) (N := (some 52)) (v := ?_) (a' := ?_) #[true, true, false, false, false, false, false, false, false, false, false, false, false] rfl rfl (by kernel_rfl) (fun _ _ _ h => h) (Or.inl ⟨by rfl, ?_⟩) ?_ ?_
          rotate_left
          · intro w'
            go_simp
            with_reducible rfl
          rotate_left
          · simp only [Act.put, sA_, sZ_, sS_, i64_w, i32_w]
            rfl
          refine pure_ (i := 2) (N := (some 53)) (v := ?_) (a' := ?_) #[true, true, true, false, false, false, false, false, false, false, false, false, false] rfl rfl (by kernel_rfl) (fun _ _ _ h => h) (Or.inl ⟨by rfl, ?_⟩) ?_ ?_
          rotate_left
          · intro w'
            go_simp
            with_reducible rfl
          rotate_left
          · simp only [Act.put, sA_, sZ_, sS_, i64_w, i32_w]
            rfl
          refine pure_ (i := 3) (N := (some 54)) (v := ?_) (a' := ?_) #[true, true, true, true, false, false, false, false, false, false, false, false, false] rfl rfl (by kernel_rfl) (fun _ _ _ h => h) (Or.inl ⟨by rfl, ?_⟩) ?_ ?_
          rotate_left
          · intro w'
            go_simp
            with_reducible rfl
          rotate_left
          · simp only [Act.put, sA_, sZ_, sS_, i64_w, i32_w]
            rfl
          refine pure_ (i := 5) (N := (some 56)) (v := ?_) (a' := ?_) #[true, true, true, true, false, true, false, false, false, false, false, false, false] rfl rfl (by kernel_rfl) (fun _ _ _ h => h) (Or.inl ⟨by rfl, ?_⟩) ?_ ?_
          rotate_left
          · intro w'
            go_simp
            with_reducible rfl
          rotate_left
          · simp only [Act.put, sA_, sZ_, sS_, i64_w, i32_w]
            rfl
          refine pure_ (i := 6) (N := (some 57)) (v := ?_) (a' := ?_) #[true, true, true, true, false, true, true, false, false, false, false, false, false] rfl rfl (by kernel_rfl) (fun _ _ _ h => h) (Or.inl ⟨by rfl, ?_⟩) ?_ ?_
          rotate_left
          · intro w'
            go_simp
            with_reducible rfl
          rotate_left
          · simp only [Act.put, sA_, sZ_, sS_, i64_w, i32_w]
            rfl
          refine pure_ (i := 7) (N := (some 58)) (v := ?_) (a' := ?_) #[true, true, true, true, false, true, true, true, false, false, false, false, false] rfl rfl (by kernel_rfl) (fun _ _ _ h => h) (Or.inl ⟨by rfl, ?_⟩) ?_ ?_
          rotate_left
          · intro w'
            go_simp
            with_reducible rfl
          rotate_left
          · simp only [Act.put, sA_, sZ_, sS_, i64_w, i32_w]
            rfl
          refine pure_ (i := 8) (N := (some 59)) (v := ?_) (a' := ?_) #[true, true, true, true, false, true, true, true, true, false, false, false, false] rfl rfl (by kernel_rfl) (fun _ _ _ h => h) (Or.inl ⟨by rfl, ?_⟩) ?_ ?_
          rotate_left
          · intro w'
            go_simp
            with_reducible rfl
          rotate_left
          · simp only [Act.put, sA_, sZ_, sS_, i64_w, i32_w]
            rfl
          refine take_ (i := 4) (N := (some 55)) (v := ?_) (a' := ?_) #[true, true, true, true, true, true, true, true, true, false, false, false, false] rfl rfl (by kernel_rfl) (fun _ _ _ h => h) (Or.inl ⟨by rfl, ?_⟩) hHeld ?_ ?_
          rotate_left
          · rintro w' ⟨s0, s1, s2⟩
            go_simp
            with_reducible rfl
          rotate_left
          · simp only [Act.put, sA_, sZ_, sS_, i64_w, i32_w]
            rfl
          refine take_ (i := 9) (N := (some 60)) (v := ?_) (a' := ?_) #[true, true, true, true, true, true, true, true, true, true, false, false, false] rfl rfl (by kernel_rfl) (fun _ _ _ h => h) (Or.inl ⟨by rfl, ?_⟩) hHeld ?_ ?_
          rotate_left
          · rintro w' ⟨s0, s1, s2⟩
            go_simp
            with_reducible rfl
          rotate_left
          · simp only [Act.put, sA_, sZ_, sS_, i64_w, i32_w]
            rfl
          refine one_ (i := 10) (N := (some 61)) #[true, true, true, true, true, true, true, true, true, true, true, false, false] rfl rfl (by kernel_rfl) (by decide) (fun K hK => ?_)
          have HQ1 := Aside0.mk (HQ.out.below (below_drew (Below.refl _ _)))
          refine call_ 101 #[vP x] (by rfl) rfl (by go_simp) ?_
          refine (H3.out _ HQ1.out.bl _ _ HX.out).mono ?_
          rintro e w2 ⟨rfl, hb2⟩
          refine ⟨_, rfl, ?_⟩
          have HP2 := Aside0.mk (HQ1.out.below hb2)
          have HB2 := Aside0.mk hb2
          clear hb2
          have kk2 := HP2.out.at m (by omega)
          rw [HG.out] at kk2
          refine hK.out _ _ (⟨HP2.out.way2, kk2.1, kk2.2⟩) (fun hHeld => ?_)
          clear hK K
          refine norm_ (a' := ?_) ?_ ?_
          rotate_left
          · show Act.put _ (some 61) _ = _
            simp only [Act.put, sA_, sZ_, sS_, i64_w, i32_w]
            rfl
          refine pure_ (i := 11) (N := (some 62)) (v := ?_) (a' := ?_) #[true, true, true, true, true, true, true, true, true, true, true, true, false] rfl rfl (by kernel_rfl) (fun _ _ _ h => h) (Or.inl ⟨by rfl, ?_⟩) ?_ ?_
          rotate_left
          · intro w'
            go_simp
            with_reducible rfl
          rotate_left
          · simp only [Act.put, sA_, sZ_, sS_, i64_w, i32_w]
            rfl
          refine last_ (i := 12) (N := none) #[true, true, true, true, true, true, true, true, true, true, true, true, true] rfl rfl (by kernel_rfl) (by decide) (fun K hK => ?_)
          refine skip_ (w1 := w2.setCells g (m * 2) [.string y.1, .bool y.2]) (by rfl) rfl ?_ ?_
          · have hrun := HP2.out.store m (Nat.lt_succ_self m) y
            simp [execOp, Act.eval, hrun]
          refine hK.out _ _ ?_
          clear hK K
          refine done_ (by kernel_rfl) ?_
          clear hs0 hs1 hs2 hs3 hs4 k0 k1 kk2 hw0 hw1 hw2 hi2 HQ HQ1
          go_wp2_with fail
          have hfin : Pile w (w2.setCells g (m * 2) [.string y.1, .bool y.2]) (.slice (some ⟨g, 0, none⟩) (m + 1) c) (st.set m y) := HP2.out.put m (by omega) y
          have HF := Aside0.mk hfin
          have HZ : (st.set m y).length = st.length := List.length_set
          have HZ := Aside0.mk HZ
          clear hfin
          go_roundw
          case rel => exact ⟨i + 1, st.set m y, by go_num, by omega, HN, ⟨by have := HS.out; have := HZ.out; omega⟩, HF⟩
          case measure => simp [intOf]; omega
        · rw [if_neg hpos] at hp; cases hp
      · rw [if_neg k4] at hp
        have e4 : (s.f0 == 4) = false := beq_eq_false_iff_ne.mpr k4
        clear k3 k4
        cases hx : leaf s with
        | none => rw [hx] at hp; cases hp
        | some x =>
        rw [hx] at hp
        obtain rfl := Option.some.inj hp
        have HX := Aside0.mk hx
        clear hx hp
        go_wp2_with fail
        refine (H1.out _ HQ.out.bl _ _ HX.out).mono ?_
        rintro e w2 ⟨rfl, hb2⟩
        have HP2 := Aside0.mk (HQ.out.below hb2)
        clear hb2 hw0 hw1 hw2 HQ
        have HL := Aside0.mk HP2.out.low
        go_wp2_with ((with_reducible refine gate_builtin (b := .append) (xs := #[.tmp 20, .tmp 25]) rfl ?_); at_builtin; refine Kd.R_append kP (w0 := w2) (w.heap.size + 2) rfl (.tmp 20) (.tmp 25) 205 155 (.agg #[(.string ⟨#[]⟩), (.bool false)]) 24 rfl Try.underlying205 infoP rfl (by decide) (by omega) (.slice A st.length c) st x [.string x.1, .bool x.2] (fun _ => True) (fun _ => False) rfl rfl (kP_mkM _ _ _ _) (fun _ hk => hk.elim) (fun _ _ => trivial) HP2.out.row (Below.refl _ _) HL.out (by have := HS.out; omega) ?_; intro v5 w5 ho5 hb5 hg5 hat5)
        have HP5 := Aside0.mk (HP2.out.grown ho5 hg5)
        clear ho5 hb5 hg5 hat5 HP2 HP
        go_roundw
        case rel => exact ⟨i + 1, st ++ [x], by go_num, by omega, HN, ⟨by have := HS.out; simp; omega⟩, HP5⟩
        case measure => simp [intOf]; omega
  · have hx : i = l.length := by omega
    subst hx
    have h := HR'.out
    rw [List.drop_length] at h
    simp only [run] at h
    have hpos : 0 < st.length := by
     cases st with
     | nil => cases h
     | cons a b => simp
    obtain ⟨g, cap, hv, hg1, hg2, _⟩ := Kd.R_form HP.out.row hpos
    injection hv with ha _ hcap
    subst ha hcap
    obtain ⟨cs, _, hM, hcc⟩ := Kd.R_getA HP.out.row (⟨#[]⟩, false) 0 (by omega) (by omega)
    have hst : st.getD (0 : Int).toNat (⟨#[]⟩, false) = r := by
     cases st with
     | nil => cases h
     | cons a b => exact Option.some.inj h
    rw [hst] at hM
    obtain rfl := kP_openM hM
    have k0 : wr.cell? ⟨g, 0, none⟩ = some (.string r.1) := hcc 0 _ rfl
    have k1 : wr.cell? ⟨g, 1, none⟩ = some (.bool r.2) := hcc 1 _ rfl
    have m0 : wr.cell? ⟨w.heap.size + 1, 0, none⟩ = some (.string ⟨#[]⟩) := (blk_cell HP.out.res 0).trans rfl
    have m1 : wr.cell? ⟨w.heap.size + 1, 1, none⟩ = some (.bool false) := (blk_cell HP.out.res 1).trans rfl
    have p0 := blk_frozen HP.out.res 0
    have p1 := blk_frozen HP.out.res 1
    have q0 : (0 < (st.length : Int)) = True := eq_true (by omega)
    clear hcc hM h HR'
    go_wp2_with fail
    refine bodyPost_ret (results_single rfl (.cell (w.heap.size + 1) 155 #[.string r.1, .bool r.2] (0, 0) _ rfl (blk_put (cs := #[.string r.1, .bool false]) (blk_put (cs := #[.string ⟨#[]⟩, .bool false]) HP.out.res 0 _ rfl) 1 _ rfl) Try.underlying155 rfl (by kernel_rfl) .nil)) rfl ?_
    exact ⟨rfl, below_set (below_set HP.out.bl (by (try dsimp only); omega)) (by (try dsimp only); omega)⟩
end Go.Proofs.Ytcbkihhpnndpkaa.HFoldPiece
namespace Go.Proofs.Ytcbkihhpnndpkaa.PF
open Go.RowKit Go.Proofs.YtcbkihhpnndpkaaW.PrintWords Go.Proofs.YtcbkihhpnndpkaaW.PrintLast Go.Proofs.YtcbkihhpnndpkaaW.PrintMore
attribute [local go_sem] max2_int min2_int max_two min_two max_three min_three max_four min_four   -- for this text's walks alone
open PA
set_option linter.unusedVariables false
set_option linter.unusedSimpArgs false

end Go.Proofs.Ytcbkihhpnndpkaa.PF
namespace Go.Proofs.Ytcbkihhpnndpkaa.PF
open Go.RowKit Go.Proofs.YtcbkihhpnndpkaaW.PrintWords Go.Proofs.YtcbkihhpnndpkaaW.PrintLast Go.Proofs.YtcbkihhpnndpkaaW.PrintMore
attribute [local go_sem] max2_int min2_int max_two min_two max_three min_three max_four min_four   -- for this text's walks alone
open PA
set_option linter.unusedVariables false
set_option linter.unusedSimpArgs false

-- NOT PRINTED: function 98 (terms_spelled_1)

/-! ### terms_piece_bracketed: function 100 -/
def terms_piece_bracketed.f (a0_0 : ByteArray) (a0_1 : Bool) : Option (ByteArray) := if a0_1 = true then (if 1 + a0_0.size ≤ 9223372036854775807 then (if ((⟨#[40]⟩ : ByteArray) ++ a0_0).size + 1 ≤ 9223372036854775807 then (some (((⟨#[40]⟩ : ByteArray) ++ a0_0) ++ (⟨#[41]⟩ : ByteArray))) else (none)) else (none)) else (some a0_0)
set_option maxHeartbeats 8000000 in
set_option maxRecDepth 100000 in
theorem terms_piece_bracketed.calls (a0_0 : ByteArray) (a0_1 : Bool) (r : ByteArray) (w : World) (h : terms_piece_bracketed.f a0_0 a0_1 = some r) :
 Calls Try.prog 100 #[.agg #[.string a0_0, .bool a0_1]] w fun e w' => e = .returned (.string r) ∧ Below w.heap.size w w' := by
 have hu155 := Try.underlying155
 have HB := Aside0.mk (Below.refl w.heap.size w)
 have H : (if a0_1 = true then (if 1 + a0_0.size ≤ 9223372036854775807 then (if ((⟨#[40]⟩ : ByteArray) ++ a0_0).size + 1 ≤ 9223372036854775807 then (some (((⟨#[40]⟩ : ByteArray) ++ a0_0) ++ (⟨#[41]⟩ : ByteArray))) else (none)) else (none)) else (some a0_0)) = some r := h
 clear h
 by_cases c2 : a0_1 = true
 · subst c2
   have H1 : (if 1 + a0_0.size ≤ 9223372036854775807 then (if ((⟨#[40]⟩ : ByteArray) ++ a0_0).size + 1 ≤ 9223372036854775807 then (some (((⟨#[40]⟩ : ByteArray) ++ a0_0) ++ (⟨#[41]⟩ : ByteArray))) else (none)) else (none)) = some r := by rw [if_pos rfl] at H; exact H
   clear H
   have H := H1
   clear H1
   by_cases c3 : 1 + a0_0.size ≤ 9223372036854775807
   · rw [if_pos c3] at H
     have c3b0 := eq_true c3
     have c3b1 : decide (1 + a0_0.size ≤ 9223372036854775807) = true := decide_eq_true c3
     try have c3b2 : (9223372036854775807 < 1 + a0_0.size) = False := eq_false (Nat.not_lt.2 c3)
     by_cases c4 : ((⟨#[40]⟩ : ByteArray) ++ a0_0).size + 1 ≤ 9223372036854775807
     · rw [if_pos c4] at H
       have c4b0 := eq_true c4
       have c4b1 : decide (((⟨#[40]⟩ : ByteArray) ++ a0_0).size + 1 ≤ 9223372036854775807) = true := decide_eq_true c4
       try have c4b2 : (9223372036854775807 < ((⟨#[40]⟩ : ByteArray) ++ a0_0).size + 1) = False := eq_false (Nat.not_lt.2 c4)
       try have c4b4 : (9223372036854775807 < 1 + a0_0.size + 1) = False := by rw [show 1 + a0_0.size + 1 = ((⟨#[40]⟩ : ByteArray) ++ a0_0).size + 1 from by simp [ByteArray.size_append] <;> (first | done | rfl | omega)]; exact c4b2
       obtain rfl := Option.some.inj H
       go_enter Try.func100, Try.ntmps100
       go_wp2_with (first | ((with_reducible refine gate_dst (N := 1) rfl ?_); refine box_event ?hg (N := 1) ?hd (cs := #[.string a0_0, .bool true]) (t := 155) ?hr ?_; (case hd => rfl); (case hg => rfl); (case hr => first | (go_simp; done) | (go_simp; rfl)); intro gb103 hg w5 hbox hb; have n0_ := Aside0.mk (below_step (by repeat (first | (with_reducible first | exact HB.out | apply below_alloc | apply pw_below_drewN | apply below_drew1) | exact HB.out)) hb); have n1_ := Aside0.mk (hbox); have n2_ := Aside0.mk ((by rw [hg]; exact (below_size (by repeat (first | (with_reducible first | exact HB.out | apply below_alloc | apply pw_below_drewN | apply below_drew1) | exact HB.out))) : w.heap.size ≤ gb103)); have n3_ := Aside0.mk ((by rw [hg]; exact (below_size (by repeat (first | (with_reducible first | exact HB.out | apply below_alloc | apply pw_below_drewN | apply below_drew1) | exact HB.out))) : w.heap.size ≤ gb103)); clear HB; have HB := n0_; have BK103 := n1_; have GW103 := n2_; have GE103 := n3_; clear n0_ n1_ n2_ n3_; clear hb hbox hg; have hcz6_0 : w5.cell? ⟨gb103, 0, none⟩ = some (.string a0_0) := (blk_cell BK103.out 0).trans rfl; have hcz6_1 : w5.cell? ⟨gb103, 1, none⟩ = some (.bool true) := (blk_cell BK103.out 1).trans rfl; have hfz6_0 := blk_frozen BK103.out 0; have hfz6_1 := blk_frozen BK103.out 1))
       go_ret
       exact ⟨by first | rfl | (simp [errW_none, errW_some] <;> rfl) | (simp [*, errW_none, errW_some] <;> rfl), by repeat (first | (with_reducible first | exact HB.out | apply below_alloc | apply pw_below_drewN | apply below_drew1 | refine below_set ?_ GE103.out) | exact HB.out)⟩
     · rw [if_neg c4] at H
       exact absurd H (by simp)
   · rw [if_neg c3] at H
     exact absurd H (by simp)
 · replace c2 := Bool.eq_false_iff.mpr c2
   subst c2
   have H1 : (some a0_0) = some r := by rw [if_neg (show ¬ (false = true) by decide)] at H; exact H
   clear H
   have H := H1
   clear H1
   obtain rfl := Option.some.inj H
   go_enter Try.func100, Try.ntmps100
   go_wp2_with (first | ((with_reducible refine gate_dst (N := 1) rfl ?_); refine box_event ?hg (N := 1) ?hd (cs := #[.string a0_0, .bool false]) (t := 155) ?hr ?_; (case hd => rfl); (case hg => rfl); (case hr => first | (go_simp; done) | (go_simp; rfl)); intro gb103 hg w7 hbox hb; have n0_ := Aside0.mk (below_step (by repeat (first | (with_reducible first | exact HB.out | apply below_alloc | apply pw_below_drewN | apply below_drew1) | exact HB.out)) hb); have n1_ := Aside0.mk (hbox); have n2_ := Aside0.mk ((by rw [hg]; exact (below_size (by repeat (first | (with_reducible first | exact HB.out | apply below_alloc | apply pw_below_drewN | apply below_drew1) | exact HB.out))) : w.heap.size ≤ gb103)); have n3_ := Aside0.mk ((by rw [hg]; exact (below_size (by repeat (first | (with_reducible first | exact HB.out | apply below_alloc | apply pw_below_drewN | apply below_drew1) | exact HB.out))) : w.heap.size ≤ gb103)); clear HB; have HB := n0_; have BK103 := n1_; have GW103 := n2_; have GE103 := n3_; clear n0_ n1_ n2_ n3_; clear hb hbox hg; have hcz8_0 : w7.cell? ⟨gb103, 0, none⟩ = some (.string a0_0) := (blk_cell BK103.out 0).trans rfl; have hcz8_1 : w7.cell? ⟨gb103, 1, none⟩ = some (.bool false) := (blk_cell BK103.out 1).trans rfl; have hfz8_0 := blk_frozen BK103.out 0; have hfz8_1 := blk_frozen BK103.out 1))
   go_ret
   exact ⟨by first | rfl | (simp [errW_none, errW_some] <;> rfl) | (simp [*, errW_none, errW_some] <;> rfl), by repeat (first | (with_reducible first | exact HB.out | apply below_alloc | apply pw_below_drewN | apply below_drew1 | refine below_set ?_ GE103.out) | exact HB.out)⟩

/-! ### terms_spelled_2: function 99 -/
def terms_spelled_2.f (a0_0 : ByteArray) (a0_1 : Bool) (a1_0 : ByteArray) (a1_1 : Bool) : Option (ByteArray × Bool) := (terms_piece_bracketed.f a1_0 a1_1).bind fun t107 => (if a0_0.size + t107.size ≤ 9223372036854775807 then (some (a0_0 ++ t107, true)) else (none))
set_option maxHeartbeats 8000000 in
set_option maxRecDepth 100000 in
theorem terms_spelled_2.calls (a0_0 : ByteArray) (a0_1 : Bool) (a1_0 : ByteArray) (a1_1 : Bool) (r1 : ByteArray) (r2 : Bool) (w : World) (h : terms_spelled_2.f a0_0 a0_1 a1_0 a1_1 = some (r1, r2)) :
 Calls Try.prog 99 #[.agg #[.string a0_0, .bool a0_1], .agg #[.string a1_0, .bool a1_1]] w fun e w' => e = .returned (.agg #[.string r1, .bool r2]) ∧ Below w.heap.size w w' := by
 have hu155 := Try.underlying155
 have HB := Aside0.mk (Below.refl w.heap.size w)
 have H : ((terms_piece_bracketed.f a1_0 a1_1).bind fun t107 => (if a0_0.size + t107.size ≤ 9223372036854775807 then (some (a0_0 ++ t107, true)) else (none))) = some (r1, r2) := h
 clear h
 replace H := Option.bind_eq_some_iff.mp H
 obtain ⟨t107, A30, H⟩ := H
 replace H : (if a0_0.size + t107.size ≤ 9223372036854775807 then (some (a0_0 ++ t107, true)) else (none)) = some (r1, r2) := H
 have A3 := Aside0.mk A30
 clear A30
 by_cases c4 : a0_0.size + t107.size ≤ 9223372036854775807
 · rw [if_pos c4] at H
   have c4b0 := eq_true c4
   have c4b1 : decide (a0_0.size + t107.size ≤ 9223372036854775807) = true := decide_eq_true c4
   try have c4b2 : (9223372036854775807 < a0_0.size + t107.size) = False := eq_false (Nat.not_lt.2 c4)
   simp only [Option.some.injEq, Prod.mk.injEq] at H
   obtain ⟨rfl, rfl⟩ := H
   go_enter Try.func99, Try.ntmps99
   try go_wp2_with (first | ((with_reducible refine gate_dst (N := 2) rfl ?_); refine box_event ?hg (N := 2) ?hd (cs := #[.string a0_0, .bool a0_1]) (t := 155) ?hr ?_; (case hd => rfl); (case hg => rfl); (case hr => first | (go_simp; done) | (go_simp; rfl)); intro gb104 hg w5 hbox hb; have n0_ := Aside0.mk (below_step (by repeat (first | (with_reducible first | exact HB.out | apply below_alloc | apply pw_below_drewN | apply below_drew1) | exact HB.out)) hb); have n1_ := Aside0.mk (hbox); have n2_ := Aside0.mk ((by rw [hg]; exact (below_size (by repeat (first | (with_reducible first | exact HB.out | apply below_alloc | apply pw_below_drewN | apply below_drew1) | exact HB.out))) : w.heap.size ≤ gb104)); have n3_ := Aside0.mk ((by rw [hg]; exact (below_size (by repeat (first | (with_reducible first | exact HB.out | apply below_alloc | apply pw_below_drewN | apply below_drew1) | exact HB.out))) : w.heap.size ≤ gb104)); clear HB; have HB := n0_; have BK104 := n1_; have GW104 := n2_; have GE104 := n3_; clear n0_ n1_ n2_ n3_; clear hb hbox hg) | ((with_reducible refine gate_dst (N := 3) rfl ?_); refine box_event ?hg (N := 3) ?hd (cs := #[.string a1_0, .bool a1_1]) (t := 155) ?hr ?_; (case hd => rfl); (case hg => rfl); (case hr => first | (go_simp; done) | (go_simp; rfl)); intro gb105 hg w6 hbox hb; have n0_ := Aside0.mk (blk_below (g := gb104) (o := .cells #[.string a0_0, .bool a0_1] 155 (0, 0)) (by (with_reducible repeat (first | refine blk_drewN ?_ _ | refine blk_drew ?_ | refine blk_alloc ?_ _)); exact BK104.out) hb); have n1_ := Aside0.mk (below_step (by repeat (first | (with_reducible first | exact HB.out | apply below_alloc | apply pw_below_drewN | apply below_drew1 | refine below_set ?_ GE104.out) | exact HB.out)) hb); have n2_ := Aside0.mk (hbox); have n3_ := Aside0.mk ((by rw [hg]; exact (below_size (by repeat (first | (with_reducible first | exact HB.out | apply below_alloc | apply pw_below_drewN | apply below_drew1 | refine below_set ?_ GE104.out) | exact HB.out))) : w.heap.size ≤ gb105)); have n4_ := Aside0.mk ((by rw [hg]; exact (below_size (by repeat (first | (with_reducible first | exact HB.out | apply below_alloc | apply pw_below_drewN | apply below_drew1 | refine below_set ?_ GE104.out) | exact HB.out))) : w.heap.size ≤ gb105)); have n5_ := Aside0.mk ((by rw [hg]; exact Nat.ne_of_lt (blk_lt (g := gb104) (o := .cells #[.string a0_0, .bool a0_1] 155 (0, 0)) (by (with_reducible repeat (first | refine blk_drewN ?_ _ | refine blk_drew ?_ | refine blk_alloc ?_ _)); exact BK104.out)) : gb104 ≠ gb105)); have n6_ := Aside0.mk ((by rw [hg]; exact Nat.ne_of_gt (blk_lt (g := gb104) (o := .cells #[.string a0_0, .bool a0_1] 155 (0, 0)) (by (with_reducible repeat (first | refine blk_drewN ?_ _ | refine blk_drew ?_ | refine blk_alloc ?_ _)); exact BK104.out)) : gb105 ≠ gb104)); clear BK104; clear HB; have BK104 := n0_; have HB := n1_; have BK105 := n2_; have GW105 := n3_; have GE105 := n4_; have NB104_105 := n5_; have NB105_104 := n6_; clear n0_ n1_ n2_ n3_ n4_ n5_ n6_; clear hb hbox hg) | ((with_reducible refine gate_dst (N := 4) rfl ?_); refine box_event ?hg (N := 4) ?hd (cs := #[.string (⟨#[]⟩ : ByteArray), .bool false]) (t := 155) ?hr ?_; (case hd => rfl); (case hg => rfl); (case hr => first | (go_simp; done) | (go_simp; rfl)); intro gb106 hg w7 hbox hb; have n0_ := Aside0.mk (blk_below (g := gb104) (o := .cells #[.string a0_0, .bool a0_1] 155 (0, 0)) (by (with_reducible repeat (first | refine blk_drewN ?_ _ | refine blk_drew ?_ | refine blk_alloc ?_ _)); exact BK104.out) hb); have n1_ := Aside0.mk (blk_below (g := gb105) (o := .cells #[.string a1_0, .bool a1_1] 155 (0, 0)) (by (with_reducible repeat (first | refine blk_drewN ?_ _ | refine blk_drew ?_ | refine blk_alloc ?_ _)); exact BK105.out) hb); have n2_ := Aside0.mk (below_step (by repeat (first | (with_reducible first | exact HB.out | apply below_alloc | apply pw_below_drewN | apply below_drew1 | refine below_set ?_ GE104.out | refine below_set ?_ GE105.out) | exact HB.out)) hb); have n3_ := Aside0.mk (hbox); have n4_ := Aside0.mk ((by rw [hg]; exact (below_size (by repeat (first | (with_reducible first | exact HB.out | apply below_alloc | apply pw_below_drewN | apply below_drew1 | refine below_set ?_ GE104.out | refine below_set ?_ GE105.out) | exact HB.out))) : w.heap.size ≤ gb106)); have n5_ := Aside0.mk ((by rw [hg]; exact (below_size (by repeat (first | (with_reducible first | exact HB.out | apply below_alloc | apply pw_below_drewN | apply below_drew1 | refine below_set ?_ GE104.out | refine below_set ?_ GE105.out) | exact HB.out))) : w.heap.size ≤ gb106)); have n6_ := Aside0.mk ((by rw [hg]; exact Nat.ne_of_lt (blk_lt (g := gb104) (o := .cells #[.string a0_0, .bool a0_1] 155 (0, 0)) (by (with_reducible repeat (first | refine blk_drewN ?_ _ | refine blk_drew ?_ | refine blk_alloc ?_ _)); exact BK104.out)) : gb104 ≠ gb106)); have n7_ := Aside0.mk ((by rw [hg]; exact Nat.ne_of_gt (blk_lt (g := gb104) (o := .cells #[.string a0_0, .bool a0_1] 155 (0, 0)) (by (with_reducible repeat (first | refine blk_drewN ?_ _ | refine blk_drew ?_ | refine blk_alloc ?_ _)); exact BK104.out)) : gb106 ≠ gb104)); have n8_ := Aside0.mk ((by rw [hg]; exact Nat.ne_of_lt (blk_lt (g := gb105) (o := .cells #[.string a1_0, .bool a1_1] 155 (0, 0)) (by (with_reducible repeat (first | refine blk_drewN ?_ _ | refine blk_drew ?_ | refine blk_alloc ?_ _)); exact BK105.out)) : gb105 ≠ gb106)); have n9_ := Aside0.mk ((by rw [hg]; exact Nat.ne_of_gt (blk_lt (g := gb105) (o := .cells #[.string a1_0, .bool a1_1] 155 (0, 0)) (by (with_reducible repeat (first | refine blk_drewN ?_ _ | refine blk_drew ?_ | refine blk_alloc ?_ _)); exact BK105.out)) : gb106 ≠ gb105)); clear BK104; clear BK105; clear HB; have BK104 := n0_; have BK105 := n1_; have HB := n2_; have BK106 := n3_; have GW106 := n4_; have GE106 := n5_; have NB104_106 := n6_; have NB106_104 := n7_; have NB105_106 := n8_; have NB106_105 := n9_; clear n0_ n1_ n2_ n3_ n4_ n5_ n6_ n7_ n8_ n9_; clear hb hbox hg))
   have n0_ := Aside0.mk (blk_drew BK104.out)
   have n1_ := Aside0.mk (blk_drew BK105.out)
   have n2_ := Aside0.mk (blk_drew BK106.out)
   have n3_ := Aside0.mk (below_drew1 HB.out)
   clear BK104
   clear BK105
   clear BK106
   clear HB
   have BK104 := n0_
   have BK105 := n1_
   have BK106 := n2_
   have HB := n3_
   clear n0_ n1_ n2_ n3_
   refine start_ (n := 7) (S := fun w' => w'.cell? ⟨gb104, 0, none⟩ = some (.string a0_0) ∧ w'.cell? ⟨gb104, 1, none⟩ = some (.bool a0_1) ∧ w'.cell? ⟨gb105, 0, none⟩ = some (.string a1_0) ∧ w'.cell? ⟨gb105, 1, none⟩ = some (.bool a1_1)) (ds := []) #[false, false, false, false, false, false, false] (by kernel_rfl) rfl rfl ⟨(blk_cell BK104.out 0).trans rfl, (blk_cell BK104.out 1).trans rfl, (blk_cell BK105.out 0).trans rfl, (blk_cell BK105.out 1).trans rfl⟩ (fun hHeld => ?_)
   generalize w7.drew = w8 at BK104 BK105 BK106 HB hHeld ⊢
   refine pure_ (i := 0) (N := some 5) (v := ?_) (a' := ?_) #[true, false, false, false, false, false, false] rfl rfl (by kernel_rfl) (fun _ _ _ h => h) (Or.inl ⟨by rfl, ?_⟩) ?_ ?_
   rotate_left
   · intro w'
     go_simp
     with_reducible rfl
   rotate_left
   · simp only [Act.put, sA_, sZ_, sS_, i64_w, i32_w]
     rfl
   refine take_ (i := 1) (N := some 6) (v := ?_) (a' := ?_) #[true, true, false, false, false, false, false] rfl rfl (by kernel_rfl) (fun _ _ _ h => h) (Or.inl ⟨by rfl, ?_⟩) hHeld ?_ ?_
   rotate_left
   · rintro w' ⟨s0, s1, s2, s3⟩
     go_simp
     with_reducible rfl
   rotate_left
   · simp only [Act.put, sA_, sZ_, sS_, i64_w, i32_w]
     rfl
   refine take_ (i := 2) (N := some 7) (v := ?_) (a' := ?_) #[true, true, true, false, false, false, false] rfl rfl (by kernel_rfl) (fun _ _ _ h => h) (Or.inl ⟨by rfl, ?_⟩) hHeld ?_ ?_
   rotate_left
   · rintro w' ⟨s0, s1, s2, s3⟩
     go_simp
     with_reducible rfl
   rotate_left
   · simp only [Act.put, sA_, sZ_, sS_, i64_w, i32_w]
     rfl
   refine one_ (i := 3) (N := some 8) #[true, true, true, true, false, false, false] rfl rfl (by kernel_rfl) (by decide) (fun K hK => ?_)
   refine goes_ Try.func100 (by kernel_rfl) rfl #[.agg #[.string a1_0, .bool a1_1]] (by rfl) rfl rfl (by (try simp only [List.map_toArray, List.map_cons, List.map_nil]); first | done | rfl | (simp only [List.length_drop, List.length_take]; rfl)) ?_
   with_reducible refine (terms_piece_bracketed.calls a1_0 a1_1 t107 _ A3.out).mono ?_
   rintro e w9 ⟨rfl, hb⟩
   refine ⟨_, rfl, ?_⟩
   have n0_ := Aside0.mk (blk_below (g := gb104) (o := .cells #[.string a0_0, .bool a0_1] 155 (0, 0)) (by (with_reducible repeat (first | refine blk_drewN ?_ _ | refine blk_drew ?_ | refine blk_alloc ?_ _)); exact BK104.out) hb)
   have n1_ := Aside0.mk (blk_below (g := gb105) (o := .cells #[.string a1_0, .bool a1_1] 155 (0, 0)) (by (with_reducible repeat (first | refine blk_drewN ?_ _ | refine blk_drew ?_ | refine blk_alloc ?_ _)); exact BK105.out) hb)
   have n2_ := Aside0.mk (blk_below (g := gb106) (o := .cells #[.string (⟨#[]⟩ : ByteArray), .bool false] 155 (0, 0)) (by (with_reducible repeat (first | refine blk_drewN ?_ _ | refine blk_drew ?_ | refine blk_alloc ?_ _)); exact BK106.out) hb)
   have n3_ := Aside0.mk (below_step (by repeat (first | (with_reducible first | exact HB.out | apply below_alloc | apply pw_below_drewN | apply below_drew1 | refine below_set ?_ GE104.out | refine below_set ?_ GE105.out | refine below_set ?_ GE106.out) | exact HB.out)) hb)
   clear BK104
   clear BK105
   clear BK106
   clear HB
   have BK104 := n0_
   have BK105 := n1_
   have BK106 := n2_
   have HB := n3_
   clear n0_ n1_ n2_ n3_
   (try clear hb)
   (try clear hb2)
   (try clear hk)
   (try clear hi)
   refine hK.out _ _ ⟨(blk_cell BK104.out 0).trans rfl, (blk_cell BK104.out 1).trans rfl, (blk_cell BK105.out 0).trans rfl, (blk_cell BK105.out 1).trans rfl⟩ (fun hHeld => ?_)
   clear hK K
   refine norm_ (a' := ?_) ?_ ?_
   rotate_left
   · show Act.put _ (some 8) _ = _
     simp only [Act.put, sA_, sZ_, sS_, i64_w, i32_w]
     rfl
   refine pure_ (i := 4) (N := some 9) (v := ?_) (a' := ?_) #[true, true, true, true, true, false, false] rfl rfl (by kernel_rfl) (fun _ _ _ h => h) (Or.inl ⟨by rfl, ?_⟩) ?_ ?_
   rotate_left
   · intro w'
     go_simp
     with_reducible rfl
   rotate_left
   · simp only [Act.put, sA_, sZ_, sS_, i64_w, i32_w]
     rfl
   refine pure_ (i := 5) (N := some 10) (v := ?_) (a' := ?_) #[true, true, true, true, true, true, false] rfl rfl (by kernel_rfl) (fun _ _ _ h => h) (Or.inl ⟨by rfl, ?_⟩) ?_ ?_
   rotate_left
   · intro w'
     go_simp
     with_reducible rfl
   rotate_left
   · simp only [Act.put, sA_, sZ_, sS_, i64_w, i32_w]
     rfl
   refine one_ (i := 6) (N := none) #[true, true, true, true, true, true, true] rfl rfl (by kernel_rfl) (by decide) (fun K hK => ?_)
   have hs10 : w9.cell? ⟨gb106, 0, none⟩ = some (.string (⟨#[]⟩ : ByteArray)) := (blk_cell BK106.out 0).trans rfl
   have hfs10 := blk_frozen BK106.out 0
   have hns10_0 := NB104_106.out
   have hns10_1 := NB105_106.out
   have hms10_0 := NB106_104.out
   have hms10_1 := NB106_105.out
   have hs11 : w9.cell? ⟨gb106, 1, none⟩ = some (.bool false) := (blk_cell BK106.out 1).trans rfl
   have hfs11 := blk_frozen BK106.out 1
   have hns11_0 := NB104_106.out
   have hns11_1 := NB105_106.out
   have hms11_0 := NB106_104.out
   have hms11_1 := NB106_105.out
   refine skip_ (w1 := ?_) (by rfl) rfl ?_ ?_
   rotate_left
   · go_simp
     rfl
   refine hK.out _ _ ⟨((cell_far (p := ⟨gb106, _, none⟩) NB104_106.out _).trans (((cell_far (p := ⟨gb106, _, none⟩) NB104_106.out _).trans (hHeld.1)))), ((cell_far (p := ⟨gb106, _, none⟩) NB104_106.out _).trans (((cell_far (p := ⟨gb106, _, none⟩) NB104_106.out _).trans (hHeld.2.1)))), ((cell_far (p := ⟨gb106, _, none⟩) NB105_106.out _).trans (((cell_far (p := ⟨gb106, _, none⟩) NB105_106.out _).trans (hHeld.2.2.1)))), ((cell_far (p := ⟨gb106, _, none⟩) NB105_106.out _).trans (((cell_far (p := ⟨gb106, _, none⟩) NB105_106.out _).trans (hHeld.2.2.2))))⟩ (fun hHeld => ?_)
   clear hK K
   refine done_ (by kernel_rfl) ?_
   try go_wp2
   refine bodyPost_ret (results_cell_row rfl _ _ gb106 155 #[.string (a0_0 ++ t107), .bool true] (0, 0) _ rfl (by (with_reducible repeat (first | refine blk_drewN ?_ _ | refine blk_drew ?_ | refine blk_alloc ?_ _)); refine blk_put (cs := #[.string (a0_0 ++ t107), .bool false]) ?_ 1 _ rfl; (with_reducible repeat (first | refine blk_drewN ?_ _ | refine blk_drew ?_ | refine blk_alloc ?_ _)); refine blk_put (cs := #[.string (⟨#[]⟩ : ByteArray), .bool false]) ?_ 0 _ rfl; (with_reducible repeat (first | refine blk_drewN ?_ _ | refine blk_drew ?_ | refine blk_alloc ?_ _)); exact BK106.out) Try.underlying155 rfl (by kernel_rfl)) rfl ?_
   exact ⟨by first | rfl | (simp [errW_none, errW_some] <;> rfl) | (simp [*, errW_none, errW_some] <;> rfl), by repeat (first | (with_reducible first | exact HB.out | apply below_alloc | apply pw_below_drewN | apply below_drew1 | refine below_set ?_ GE104.out | refine below_set ?_ GE105.out | refine below_set ?_ GE106.out) | exact HB.out)⟩
 · rw [if_neg c4] at H
   exact absurd H (by simp)

/-! ### terms_spelled_3: function 101 -/
def terms_spelled_3.f (a0_0 : ByteArray) (a0_1 : Bool) : Option (ByteArray × Bool) := (terms_piece_bracketed.f a0_0 a0_1).bind fun t110 => (if t110.size + 2 ≤ 9223372036854775807 then (some (t110 ++ (⟨#[94, 119]⟩ : ByteArray), false)) else (none))
set_option maxHeartbeats 8000000 in
set_option maxRecDepth 100000 in
theorem terms_spelled_3.calls (a0_0 : ByteArray) (a0_1 : Bool) (r1 : ByteArray) (r2 : Bool) (w : World) (h : terms_spelled_3.f a0_0 a0_1 = some (r1, r2)) :
 Calls Try.prog 101 #[.agg #[.string a0_0, .bool a0_1]] w fun e w' => e = .returned (.agg #[.string r1, .bool r2]) ∧ Below w.heap.size w w' := by
 have hu155 := Try.underlying155
 have HB := Aside0.mk (Below.refl w.heap.size w)
 have H : ((terms_piece_bracketed.f a0_0 a0_1).bind fun t110 => (if t110.size + 2 ≤ 9223372036854775807 then (some (t110 ++ (⟨#[94, 119]⟩ : ByteArray), false)) else (none))) = some (r1, r2) := h
 clear h
 replace H := Option.bind_eq_some_iff.mp H
 obtain ⟨t110, A20, H⟩ := H
 replace H : (if t110.size + 2 ≤ 9223372036854775807 then (some (t110 ++ (⟨#[94, 119]⟩ : ByteArray), false)) else (none)) = some (r1, r2) := H
 have A2 := Aside0.mk A20
 clear A20
 by_cases c3 : t110.size + 2 ≤ 9223372036854775807
 · rw [if_pos c3] at H
   have c3b0 := eq_true c3
   have c3b1 : decide (t110.size + 2 ≤ 9223372036854775807) = true := decide_eq_true c3
   try have c3b2 : (9223372036854775807 < t110.size + 2) = False := eq_false (Nat.not_lt.2 c3)
   simp only [Option.some.injEq, Prod.mk.injEq] at H
   obtain ⟨rfl, rfl⟩ := H
   go_enter Try.func101, Try.ntmps101
   go_wp2_with (first | ((with_reducible refine gate_dst (N := 1) rfl ?_); refine box_event ?hg (N := 1) ?hd (cs := #[.string a0_0, .bool a0_1]) (t := 155) ?hr ?_; (case hd => rfl); (case hg => rfl); (case hr => first | (go_simp; done) | (go_simp; rfl)); intro gb108 hg w4 hbox hb; have n0_ := Aside0.mk (below_step (by repeat (first | (with_reducible first | exact HB.out | apply below_alloc | apply pw_below_drewN | apply below_drew1) | exact HB.out)) hb); have n1_ := Aside0.mk (hbox); have n2_ := Aside0.mk ((by rw [hg]; exact (below_size (by repeat (first | (with_reducible first | exact HB.out | apply below_alloc | apply pw_below_drewN | apply below_drew1) | exact HB.out))) : w.heap.size ≤ gb108)); have n3_ := Aside0.mk ((by rw [hg]; exact (below_size (by repeat (first | (with_reducible first | exact HB.out | apply below_alloc | apply pw_below_drewN | apply below_drew1) | exact HB.out))) : w.heap.size ≤ gb108)); clear HB; have HB := n0_; have BK108 := n1_; have GW108 := n2_; have GE108 := n3_; clear n0_ n1_ n2_ n3_; clear hb hbox hg) | ((with_reducible refine gate_dst (N := 2) rfl ?_); refine box_event ?hg (N := 2) ?hd (cs := #[.string (⟨#[]⟩ : ByteArray), .bool false]) (t := 155) ?hr ?_; (case hd => rfl); (case hg => rfl); (case hr => first | (go_simp; done) | (go_simp; rfl)); intro gb109 hg w5 hbox hb; have n0_ := Aside0.mk (blk_below (g := gb108) (o := .cells #[.string a0_0, .bool a0_1] 155 (0, 0)) (by (with_reducible repeat (first | refine blk_drewN ?_ _ | refine blk_drew ?_ | refine blk_alloc ?_ _)); exact BK108.out) hb); have n1_ := Aside0.mk (below_step (by repeat (first | (with_reducible first | exact HB.out | apply below_alloc | apply pw_below_drewN | apply below_drew1 | refine below_set ?_ GE108.out) | exact HB.out)) hb); have n2_ := Aside0.mk (hbox); have n3_ := Aside0.mk ((by rw [hg]; exact (below_size (by repeat (first | (with_reducible first | exact HB.out | apply below_alloc | apply pw_below_drewN | apply below_drew1 | refine below_set ?_ GE108.out) | exact HB.out))) : w.heap.size ≤ gb109)); have n4_ := Aside0.mk ((by rw [hg]; exact (below_size (by repeat (first | (with_reducible first | exact HB.out | apply below_alloc | apply pw_below_drewN | apply below_drew1 | refine below_set ?_ GE108.out) | exact HB.out))) : w.heap.size ≤ gb109)); have n5_ := Aside0.mk ((by rw [hg]; exact Nat.ne_of_lt (blk_lt (g := gb108) (o := .cells #[.string a0_0, .bool a0_1] 155 (0, 0)) (by (with_reducible repeat (first | refine blk_drewN ?_ _ | refine blk_drew ?_ | refine blk_alloc ?_ _)); exact BK108.out)) : gb108 ≠ gb109)); have n6_ := Aside0.mk ((by rw [hg]; exact Nat.ne_of_gt (blk_lt (g := gb108) (o := .cells #[.string a0_0, .bool a0_1] 155 (0, 0)) (by (with_reducible repeat (first | refine blk_drewN ?_ _ | refine blk_drew ?_ | refine blk_alloc ?_ _)); exact BK108.out)) : gb109 ≠ gb108)); clear BK108; clear HB; have BK108 := n0_; have HB := n1_; have BK109 := n2_; have GW109 := n3_; have GE109 := n4_; have NB108_109 := n5_; have NB109_108 := n6_; clear n0_ n1_ n2_ n3_ n4_ n5_ n6_; clear hb hbox hg; have hnb6 := NB108_109.out; have hnc6 := NB109_108.out; have hcz7_0 : w5.cell? ⟨gb108, 0, none⟩ = some (.string a0_0) := (blk_cell BK108.out 0).trans rfl; have hcz7_1 : w5.cell? ⟨gb108, 1, none⟩ = some (.bool a0_1) := (blk_cell BK108.out 1).trans rfl; have hfz7_0 := blk_frozen BK108.out 0; have hfz7_1 := blk_frozen BK108.out 1) | ((with_reducible refine gate_callee (f := 100) rfl ?_); refine goesL_ (some 4) rfl rfl Try.func100 (by kernel_rfl) rfl #[.agg #[.string a0_0, .bool a0_1]] rfl (by (try simp only [List.map_toArray, List.map_cons, List.map_nil]); first | done | rfl | (simp only [List.length_drop, List.length_take]; rfl)) ?_; (with_reducible refine (terms_piece_bracketed.calls a0_0 a0_1 t110 _ A2.out).mono ?_); rintro e w8 ⟨rfl, hb⟩; refine ⟨_, rfl, ?_⟩; have n0_ := Aside0.mk (blk_below (g := gb108) (o := .cells #[.string a0_0, .bool a0_1] 155 (0, 0)) (by (with_reducible repeat (first | refine blk_drewN ?_ _ | refine blk_drew ?_ | refine blk_alloc ?_ _)); exact BK108.out) hb); have n1_ := Aside0.mk (blk_below (g := gb109) (o := .cells #[.string (⟨#[]⟩ : ByteArray), .bool false] 155 (0, 0)) (by (with_reducible repeat (first | refine blk_drewN ?_ _ | refine blk_drew ?_ | refine blk_alloc ?_ _)); exact BK109.out) hb); have n2_ := Aside0.mk (below_step (by repeat (first | (with_reducible first | exact HB.out | apply below_alloc | apply pw_below_drewN | apply below_drew1 | refine below_set ?_ GE108.out | refine below_set ?_ GE109.out) | exact HB.out)) hb); clear BK108; clear BK109; clear HB; have BK108 := n0_; have BK109 := n1_; have HB := n2_; clear n0_ n1_ n2_; (try clear hb); (try clear hb2); (try clear hk); (try clear hi); have hcz9_0 : w8.cell? ⟨gb109, 0, none⟩ = some (.string (⟨#[]⟩ : ByteArray)) := (blk_cell BK109.out 0).trans rfl; have hcz9_1 : w8.cell? ⟨gb109, 1, none⟩ = some (.bool false) := (blk_cell BK109.out 1).trans rfl; have hfz9_0 := blk_frozen BK109.out 0; have hfz9_1 := blk_frozen BK109.out 1))
   refine bodyPost_ret (results_cell_row rfl _ _ gb109 155 #[.string (t110 ++ (⟨#[94, 119]⟩ : ByteArray)), .bool false] (0, 0) _ rfl (by (with_reducible repeat (first | refine blk_drewN ?_ _ | refine blk_drew ?_ | refine blk_alloc ?_ _)); refine blk_put (cs := #[.string (t110 ++ (⟨#[94, 119]⟩ : ByteArray)), .bool false]) ?_ 1 _ rfl; (with_reducible repeat (first | refine blk_drewN ?_ _ | refine blk_drew ?_ | refine blk_alloc ?_ _)); refine blk_put (cs := #[.string (⟨#[]⟩ : ByteArray), .bool false]) ?_ 0 _ rfl; (with_reducible repeat (first | refine blk_drewN ?_ _ | refine blk_drew ?_ | refine blk_alloc ?_ _)); exact BK109.out) Try.underlying155 rfl (by kernel_rfl)) rfl ?_
   exact ⟨by first | rfl | (simp [errW_none, errW_some] <;> rfl) | (simp [*, errW_none, errW_some] <;> rfl), by repeat (first | (with_reducible first | exact HB.out | apply below_alloc | apply pw_below_drewN | apply below_drew1 | refine below_set ?_ GE108.out | refine below_set ?_ GE109.out) | exact HB.out)⟩
 · rw [if_neg c3] at H
   exact absurd H (by simp)

end Go.Proofs.Ytcbkihhpnndpkaa.PF
set_option linter.unusedVariables false
set_option linter.unusedSimpArgs false
namespace Go.Proofs.Ytcbkihhpnndpkaa.HSpell
open Go.RowKit Go.Proofs.YtcbkihhpnndpkaaW.PrintWords Go.Proofs.YtcbkihhpnndpkaaW.PrintLast Go.Proofs.YtcbkihhpnndpkaaW.PrintMore
open Go.Proofs.Ytcbkihhpnndpkaa Go.Proofs.Ytcbkihhpnndpkaa.PA Go.Proofs.Ytcbkihhpnndpkaa.PF Go.Proofs.Ytcbkihhpnndpkaa.HFoldPiece

/-- One letter of the four. -/
def isName (c : Int) : Bool := decide (c = 120 ∨ c = 121 ∨ c = 122 ∨ c = 116)
def letter (c : Int) : ByteArray := ⟨#[c.toNat.toUInt8]⟩
def leafP (s : S97) : Option P2 := if s.f0 = 1 then some (⟨#[49]⟩, false) else if isName s.f1 then some (letter s.f1, false) else none
def timesP (a b : P2) : Option P2 := terms_spelled_2.f a.1 a.2 b.1 b.2
def omegaP (a : P2) : Option P2 := terms_spelled_3.f a.1 a.2

theorem conv_a (c : Int) (h : isName c = true) (w : World) : (convert 5 21 (.int .u8 c)).run Try.prog w = .ok (.int .i32 c) w := by
 simp only [isName, decide_eq_true_eq] at h
 rcases h with rfl | rfl | rfl | rfl <;> kernel_rfl
theorem conv_b (c : Int) (h : isName c = true) (w : World) : (convert 21 9 (.int .i32 c)).run Try.prog w = .ok (.string (letter c)) w := by
 simp only [isName, decide_eq_true_eq] at h
 rcases h with rfl | rfl | rfl | rfl <;> kernel_rfl

set_option maxHeartbeats 2000000 in
set_option maxRecDepth 100000 in
theorem leaf_calls (w : World) : Leaf w leafP := by
 intro w' hb s r h
 unfold leafP at h
 by_cases h1 : s.f0 = 1
 · rw [if_pos h1] at h
   obtain rfl := Option.some.inj h
   have e1 : (s.f0 == 1) = true := beq_iff_eq.mpr h1
   clear h1
   go_enter Try.func98, Try.ntmps98
   go_wp2_with fail
   refine bodyPost_ret (results_single rfl (.cell (w'.heap.size + 1) 155 #[.string ⟨#[49]⟩, .bool false] (0, 0) _ rfl (by have q := blk_new (w'.alloc (.cells #[.int .i64 s.f0, .int .u8 s.f1] 97)) (.cells #[.string ⟨#[49]⟩, .bool false] 155); simpa using q) Try.underlying155 rfl (by kernel_rfl) .nil)) rfl ?_
   exact ⟨rfl, below_alloc (below_alloc (Below.refl _ _) _) _⟩
 · rw [if_neg h1] at h
   have e1 : (s.f0 == 1) = false := beq_eq_false_iff_ne.mpr h1
   cases hn : isName s.f1 with
   | false => rw [hn] at h; cases h
   | true =>
    rw [hn, if_pos rfl] at h
    obtain rfl := Option.some.inj h
    have hc := conv_a _ hn
    have hd := conv_b _ hn
    clear h1 hn
    go_enter Try.func98, Try.ntmps98
    go_wp2_with fail
    refine bodyPost_ret (results_single rfl (.cell (w'.heap.size + 1) 155 #[.string (letter s.f1), .bool false] (0, 0) _ rfl (by have q := blk_new (w'.alloc (.cells #[.int .i64 s.f0, .int .u8 s.f1] 97)) (.cells #[.string (letter s.f1), .bool false] 155); simpa using q) Try.underlying155 rfl (by kernel_rfl) .nil)) rfl ?_
    exact ⟨rfl, below_alloc (below_alloc (Below.refl _ _) _) _⟩
theorem times_calls (w : World) : Times w timesP := by
 intro w' hb s t r h
 exact terms_spelled_2.calls s.1 s.2 t.1 t.2 r.1 r.2 w' h
theorem omega_calls (w : World) : Omega w omegaP := by
 intro w' hb s r h
 exact terms_spelled_3.calls s.1 s.2 r.1 r.2 w' h

theorem field_text (a b : Value) (w : World) : (Instr.field 155 (.agg #[a, b]) 0).run Try.prog w = .ok a w := by
 simp [Instr.field, asAgg, part, go_sem, Try.underlying155]
set_option maxHeartbeats 2000000 in
set_option maxRecDepth 100000 in
theorem calls (w : World) (A0 : Option Addr) (c0 : Nat) (l : List S97) (hl : Kd.C k97 w A0 l.length l) (hc : l.length ≤ c0) (hn : l.length ≤ 400) (r : P2) (h : run leafP timesP omegaP l [] = some r) :
 Calls Try.prog 47 #[.slice A0 l.length c0] w fun e w' => e = .returned (.string r.1) ∧ Below w.heap.size w w' := by
 have HL := Aside0.mk hl
 have HR := Aside0.mk h
 clear h hl
 go_enter Try.func47, Try.ntmps47
 go_wp2_with fail
 refine (HFoldPiece.calls leafP timesP omegaP _ (leaf_calls _) (times_calls _) (omega_calls _) A0 c0 l HL.out hc hn r HR.out).mono ?_
 rintro e w' ⟨rfl, hb⟩
 unfold vP
 have hf := field_text
 go_wp2_with fail
 go_ret
 exact ⟨rfl, hb⟩
end Go.Proofs.Ytcbkihhpnndpkaa.HSpell
namespace Go.Proofs.Ytcbkihhpnndpkaa.PG
open Go.RowKit Go.Proofs.YtcbkihhpnndpkaaW.PrintWords Go.Proofs.YtcbkihhpnndpkaaW.PrintLast Go.Proofs.YtcbkihhpnndpkaaW.PrintMore
attribute [local go_sem] max2_int min2_int max_two min_two max_three min_three max_four min_four   -- for this text's walks alone
open PA
set_option linter.unusedVariables false
set_option linter.unusedSimpArgs false

/-! #### struct type 97 -/
end Go.Proofs.Ytcbkihhpnndpkaa.PG
namespace Go.Proofs.Ytcbkihhpnndpkaa.PG
open Go.RowKit Go.Proofs.YtcbkihhpnndpkaaW.PrintWords Go.Proofs.YtcbkihhpnndpkaaW.PrintLast Go.Proofs.YtcbkihhpnndpkaaW.PrintMore
attribute [local go_sem] max2_int min2_int max_two min_two max_three min_three max_four min_four   -- for this text's walks alone
open PA
set_option linter.unusedVariables false
set_option linter.unusedSimpArgs false

/-! ### terms_spelled: function 47 -/
def terms_spelled.f (l0 : List S97) : Option ByteArray := if l0.length ≤ 400 then (HFoldPiece.run HSpell.leafP HSpell.timesP HSpell.omegaP l0 []).map (fun x => x.1) else none
theorem terms_spelled.calls (A0 : Option Addr) (c0 : Nat) (l0 : List (S97)) (r : ByteArray) (w : World) (hr0 : Kd.C k97 w A0 l0.length l0) (hc0 : l0.length ≤ c0) (h : terms_spelled.f l0 = some r) :
 Calls Try.prog 47 #[.slice A0 l0.length c0] w fun e w' => e = .returned (.string r) ∧ Below w.heap.size w w' := by
 unfold terms_spelled.f at h
 by_cases hn : l0.length ≤ 400
 · rw [if_pos hn] at h
   cases hx : HFoldPiece.run HSpell.leafP HSpell.timesP HSpell.omegaP l0 [] with
   | none => rw [hx] at h; cases h
   | some x =>
    rw [hx] at h
    obtain rfl := Option.some.inj h
    exact HSpell.calls w A0 c0 l0 hr0 hc0 hn x hx
 · rw [if_neg hn] at h
   cases h

/-! ### terms_Print: function 17 -/
def terms_Print.j0 : Nat → ByteArray → List (S97) → List (S97) → Bool → Option (ByteArray × Int)
 | 0, _, _, _, _ => none
 | k + 1, x5, x102000, x102001, x102002 => (terms_spelled.f x102000).bind fun t103 => (if t103.size + x5.size ≤ 9223372036854775807 then ((terms_spelled.f x102001).bind fun t104 => (if (t103 ++ x5).size + t104.size ≤ 9223372036854775807 then (if (((t103 ++ x5) ++ t104).size : Int) > 1000 then (some ((⟨#[]⟩ : ByteArray), 6)) else (some ((t103 ++ x5) ++ t104, 0))) else (none))) else (none))
def terms_Print.f (k : Nat) (l0_0 : List (S97)) (l0_1 : List (S97)) (a0_2 : Bool) : Option (ByteArray × Int) := (terms_Check.f k l0_0 l0_1 a0_2).bind fun t102 => (if t102 = 0 then (if a0_2 = true then (terms_Print.j0 k (⟨#[32, 60, 61, 32]⟩ : ByteArray) l0_0 l0_1 a0_2) else (terms_Print.j0 k (⟨#[32, 61, 32]⟩ : ByteArray) l0_0 l0_1 a0_2)) else (some ((⟨#[]⟩ : ByteArray), t102)))
theorem terms_Print.mono_l : ∀ k, (∀ y0 y1 y2 y3, LeO (terms_Print.j0 k y0 y1 y2 y3) (terms_Print.j0 (k + 1) y0 y1 y2 y3))
 | 0 => fun _ _ _ _ r h => by simp [terms_Print.j0] at h
 | k + 1 => by
  have ih0 := terms_Print.mono_l k
  · intro y0 y1 y2 y3
    unfold terms_Print.j0
    repeat' first
    | (with_reducible exact ih0 _ _ _ _)
    | (with_reducible exact terms_Check.mono _ _ _ _)
    | (with_reducible exact LeO.refl _)
    | (with_reducible exact LeO.none _)
    | (with_reducible refine LeO.ite ?_ ?_)
    | (with_reducible refine LeO.bind ?_ (fun _ => ?_))
    | exact ih0 _ _ _ _
    | exact terms_Check.mono _ _ _ _
    | exact LeO.none _
    | refine LeO.ite ?_ ?_
    | refine LeO.bind ?_ (fun _ => ?_)
theorem terms_Print.mono : ∀ a0 a1 a2 k, LeO (terms_Print.f k a0 a1 a2) (terms_Print.f (k + 1) a0 a1 a2) := by
 intro a0 a1 a2 k
 have ih0 := terms_Print.mono_l k
 unfold terms_Print.f
 repeat' first
  | (with_reducible exact ih0 _ _ _ _)
  | (with_reducible exact terms_Check.mono _ _ _ _)
  | (with_reducible exact LeO.refl _)
  | (with_reducible exact LeO.none _)
  | (with_reducible refine LeO.ite ?_ ?_)
  | (with_reducible refine LeO.bind ?_ (fun _ => ?_))
  | exact ih0 _ _ _ _
  | exact terms_Check.mono _ _ _ _
  | exact LeO.none _
  | refine LeO.ite ?_ ?_
  | refine LeO.bind ?_ (fun _ => ?_)
def terms_Print.T7 : Bool × List (List Nat × List Nat) := (true, [([], []), ([0], [0]), ([1], [1]), ([], []), ([2, 3], [2, 3]), ([], []), ([5], [5]), ([6, 2], [6]), ([4, 7], [4, 7]), ([8, 7, 0, 1, 2, 3, 4, 5, 6, 7, 8], [8])])
def terms_Print.B7 : List Nat := [0, 1, 3, 0, 15, 0, 32, 103, 255, 511]
theorem terms_Print.tab7 : rtab .any (opsOf Try.f17 7) = terms_Print.T7 := by kernel_rfl
theorem terms_Print.bits7 : waitsOk terms_Print.T7.2 terms_Print.B7 = true := by kernel_rfl
set_option maxHeartbeats 8000000 in
set_option maxRecDepth 100000 in
theorem terms_Print.calls (k : Nat) (A0_0 : Option Addr) (c0_0 : Nat) (l0_0 : List (S97)) (A0_1 : Option Addr) (c0_1 : Nat) (l0_1 : List (S97)) (a0_2 : Bool) (r1 : ByteArray) (r2 : Int) (w : World) (hr0_0 : Kd.C k97 w A0_0 l0_0.length l0_0) (hc0_0 : l0_0.length ≤ c0_0) (hr0_1 : Kd.C k97 w A0_1 l0_1.length l0_1) (hc0_1 : l0_1.length ≤ c0_1) (h : terms_Print.f k l0_0 l0_1 a0_2 = some (r1, r2)) :
 Calls Try.prog 17 #[.agg #[.slice A0_0 l0_0.length c0_0, .slice A0_1 l0_1.length c0_1, .bool a0_2]] w fun e w' => e = .returned (.tuple #[.string r1, .int .i64 r2]) ∧ Below w.heap.size w w' := by
 have hu24 := Try.underlying24
 have HR0_0 := Aside0.mk hr0_0
 have HC0_0 := Aside0.mk hc0_0
 clear hr0_0 hc0_0
 have HR0_1 := Aside0.mk hr0_1
 have HC0_1 := Aside0.mk hc0_1
 clear hr0_1 hc0_1
 have HB := Aside0.mk (Below.refl w.heap.size w)
 have H : ((terms_Check.f k l0_0 l0_1 a0_2).bind fun t102 => (if t102 = 0 then (if a0_2 = true then (terms_Print.j0 k (⟨#[32, 60, 61, 32]⟩ : ByteArray) l0_0 l0_1 a0_2) else (terms_Print.j0 k (⟨#[32, 61, 32]⟩ : ByteArray) l0_0 l0_1 a0_2)) else (some ((⟨#[]⟩ : ByteArray), t102)))) = some (r1, r2) := h
 clear h
 replace H := Option.bind_eq_some_iff.mp H
 obtain ⟨t102, A20, H⟩ := H
 replace H : (if t102 = 0 then (if a0_2 = true then (terms_Print.j0 k (⟨#[32, 60, 61, 32]⟩ : ByteArray) l0_0 l0_1 a0_2) else (terms_Print.j0 k (⟨#[32, 61, 32]⟩ : ByteArray) l0_0 l0_1 a0_2)) else (some ((⟨#[]⟩ : ByteArray), t102))) = some (r1, r2) := H
 have A2 := Aside0.mk A20
 clear A20
 by_cases c3 : t102 = 0
 · rw [if_pos c3] at H
   have c3b0 : (t102 == 0) = true := beq_iff_eq.mpr c3
   have c3b1 : (t102 != 0) = false := bne_eq_false_iff_eq.mpr c3
   clear c3
   have HC4 := Aside0.mk H
   clear H
   go_enter Try.func17, Try.ntmps17
   go_upto_if 13 with (first | ((with_reducible refine gate_dst (N := 1) rfl ?_); refine box_event ?hg (N := 1) ?hd (cs := #[.slice A0_0 l0_0.length c0_0, .slice A0_1 l0_1.length c0_1, .bool a0_2]) (t := 24) ?hr ?_; (case hd => rfl); (case hg => rfl); (case hr => first | (go_simp; done) | (go_simp; rfl)); intro gb101 hg w5 hbox hb; have n0_ := Aside0.mk (below_step (by repeat (first | (with_reducible first | exact HB.out | apply below_alloc | apply pw_below_drewN | apply below_drew1) | exact HB.out)) hb); have n1_ := Aside0.mk (hbox); have n2_ := Aside0.mk ((by rw [hg]; exact (below_size (by repeat (first | (with_reducible first | exact HB.out | apply below_alloc | apply pw_below_drewN | apply below_drew1) | exact HB.out))) : w.heap.size ≤ gb101)); have n3_ := Aside0.mk ((by rw [hg]; exact (below_size (by repeat (first | (with_reducible first | exact HB.out | apply below_alloc | apply pw_below_drewN | apply below_drew1) | exact HB.out))) : w.heap.size ≤ gb101)); clear HB; have HB := n0_; have BK101 := n1_; have GW101 := n2_; have GE101 := n3_; clear n0_ n1_ n2_ n3_; clear hb hbox hg; have hcz6_0 : w5.cell? ⟨gb101, 0, none⟩ = some (.slice A0_0 l0_0.length c0_0) := (blk_cell BK101.out 0).trans rfl; have hcz6_1 : w5.cell? ⟨gb101, 1, none⟩ = some (.slice A0_1 l0_1.length c0_1) := (blk_cell BK101.out 1).trans rfl; have hcz6_2 : w5.cell? ⟨gb101, 2, none⟩ = some (.bool a0_2) := (blk_cell BK101.out 2).trans rfl; have hfz6_0 := blk_frozen BK101.out 0; have hfz6_1 := blk_frozen BK101.out 1; have hfz6_2 := blk_frozen BK101.out 2) | ((with_reducible refine gate_callee (f := 24) rfl ?_); refine goesL_ (some 8) rfl rfl Try.func24 (by kernel_rfl) rfl #[.agg #[.slice A0_0 l0_0.length c0_0, .slice A0_1 l0_1.length c0_1, .bool a0_2]] rfl (by (try simp only [List.map_toArray, List.map_cons, List.map_nil]); first | done | rfl | (simp only [List.length_drop, List.length_take]; rfl)) ?_; (with_reducible refine (terms_Check.calls k _ _ l0_0 _ _ l0_1 a0_2 t102 _ ?side1 ?side2 ?side3 ?side4 A2.out).mono ?_); (case side1 => repeat (first | exact (Kd.C_below HR0_0.out HB.out) | (with_reducible refine Kd.C_alloc ?_ _) | (with_reducible refine Kd.C_drewN ?_ _) | (with_reducible refine Kd.C_drew ?_))); (case side2 => exact HC0_0.out); (case side3 => repeat (first | exact (Kd.C_below HR0_1.out HB.out) | (with_reducible refine Kd.C_alloc ?_ _) | (with_reducible refine Kd.C_drewN ?_ _) | (with_reducible refine Kd.C_drew ?_))); (case side4 => exact HC0_1.out); rintro e w7 ⟨rfl, hb⟩; refine ⟨_, rfl, ?_⟩; have n0_ := Aside0.mk (blk_below (g := gb101) (o := .cells #[.slice A0_0 l0_0.length c0_0, .slice A0_1 l0_1.length c0_1, .bool a0_2] 24 (0, 0)) (by (with_reducible repeat (first | refine blk_drewN ?_ _ | refine blk_drew ?_ | refine blk_alloc ?_ _)); exact BK101.out) hb); have n1_ := Aside0.mk (below_step (by repeat (first | (with_reducible first | exact HB.out | apply below_alloc | apply pw_below_drewN | apply below_drew1 | refine below_set ?_ GE101.out) | exact HB.out)) hb); clear BK101; clear HB; have BK101 := n0_; have HB := n1_; clear n0_ n1_; (try clear hb); (try clear hb2); (try clear hk); (try clear hi); have hcz8_0 : w7.cell? ⟨gb101, 0, none⟩ = some (.slice A0_0 l0_0.length c0_0) := (blk_cell BK101.out 0).trans rfl; have hcz8_1 : w7.cell? ⟨gb101, 1, none⟩ = some (.slice A0_1 l0_1.length c0_1) := (blk_cell BK101.out 1).trans rfl; have hcz8_2 : w7.cell? ⟨gb101, 2, none⟩ = some (.bool a0_2) := (blk_cell BK101.out 2).trans rfl; have hfz8_0 := blk_frozen BK101.out 0; have hfz8_1 := blk_frozen BK101.out 1; have hfz8_2 := blk_frozen BK101.out 2))
   (try simp only [Act.put, List.setIfInBounds_toArray, List.set_cons_zero, List.set_cons_succ])
   go_cut [5] (fun v5 wc => ∃ (kq : Nat) (x5_3 : ByteArray), v5 = .string x5_3 ∧ Aside0 (terms_Print.j0 kq x5_3 l0_0 l0_1 a0_2 = some (r1, r2)) ∧ Aside0 (kq ≤ k) ∧ Aside0 (wc.heap[gb101]? = some (.cells #[(.slice A0_0 l0_0.length c0_0), (.slice A0_1 l0_1.length c0_1), .bool a0_2] 24 (0, 0))) ∧ Aside0 (Below w.heap.size w wc))
   case first =>
    have H := HC4.out
    clear HC4
    by_cases c9 : a0_2 = true
    · subst c9
      have H1 : (terms_Print.j0 k (⟨#[32, 60, 61, 32]⟩ : ByteArray) l0_0 l0_1 true) = some (r1, r2) := by rw [if_pos rfl] at H; exact H
      clear H
      have H := H1
      clear H1
      have H' := Aside0.mk H
      clear H
      go_wp2
      go_meet
      case rel => exact ⟨_, ((⟨#[32, 60, 61, 32]⟩ : ByteArray)), (by first | rfl | (simp; done) | (simp [*]; done)), H', ⟨by first | omega | exact Nat.le_refl _⟩, ⟨by (with_reducible repeat (first | refine blk_drewN ?_ _ | refine blk_drew ?_ | refine blk_alloc ?_ _)); exact BK101.out⟩, ⟨by repeat (first | (with_reducible first | exact HB.out | apply below_alloc | apply pw_below_drewN | apply below_drew1 | refine below_set ?_ GE101.out) | exact HB.out)⟩⟩
    · replace c9 := Bool.eq_false_iff.mpr c9
      subst c9
      have H1 : (terms_Print.j0 k (⟨#[32, 61, 32]⟩ : ByteArray) l0_0 l0_1 false) = some (r1, r2) := by rw [if_neg (show ¬ (false = true) by decide)] at H; exact H
      clear H
      have H := H1
      clear H1
      have H' := Aside0.mk H
      clear H
      go_wp2
      go_meet
      case rel => exact ⟨_, ((⟨#[32, 61, 32]⟩ : ByteArray)), (by first | rfl | (simp; done) | (simp [*]; done)), H', ⟨by first | omega | exact Nat.le_refl _⟩, ⟨by (with_reducible repeat (first | refine blk_drewN ?_ _ | refine blk_drew ?_ | refine blk_alloc ?_ _)); exact BK101.out⟩, ⟨by repeat (first | (with_reducible first | exact HB.out | apply below_alloc | apply pw_below_drewN | apply below_drew1 | refine below_set ?_ GE101.out) | exact HB.out)⟩⟩
   case rest =>
    clear HC4
    try clear c1
    try clear c2
    try clear p2
    try clear c3
    try clear c3b0
    try clear c3b1
    try clear c9
    try clear hcz6_0
    try clear hcz6_1
    try clear hcz6_2
    try clear hcz8_0
    try clear hcz8_1
    try clear hcz8_2
    try clear hfz6_0
    try clear hfz6_1
    try clear hfz6_2
    try clear hfz8_0
    try clear hfz8_1
    try clear hfz8_2
    obtain ⟨kq, x5_3, rfl, HA, HJ3, BK101, HB⟩ := hcut
    cases kq with
    | zero => exact absurd HA.out (by simp [terms_Print.j0])
    | succ kj3 =>
     have H := HA.out
     clear HA
     simp only [terms_Print.j0] at H
     replace H := Option.bind_eq_some_iff.mp H
     obtain ⟨t103, A100, H⟩ := H
     replace H : (if t103.size + x5_3.size ≤ 9223372036854775807 then ((terms_spelled.f l0_1).bind fun t104 => (if (t103 ++ x5_3).size + t104.size ≤ 9223372036854775807 then (if (((t103 ++ x5_3) ++ t104).size : Int) > 1000 then (some ((⟨#[]⟩ : ByteArray), 6)) else (some ((t103 ++ x5_3) ++ t104, 0))) else (none))) else (none)) = some (r1, r2) := H
     have A10 := Aside0.mk A100
     clear A100
     by_cases c11 : t103.size + x5_3.size ≤ 9223372036854775807
     · rw [if_pos c11] at H
       have c11b0 := eq_true c11
       have c11b1 : decide (t103.size + x5_3.size ≤ 9223372036854775807) = true := decide_eq_true c11
       try have c11b2 : (9223372036854775807 < t103.size + x5_3.size) = False := eq_false (Nat.not_lt.2 c11)
       replace H := Option.bind_eq_some_iff.mp H
       obtain ⟨t104, A120, H⟩ := H
       replace H : (if (t103 ++ x5_3).size + t104.size ≤ 9223372036854775807 then (if (((t103 ++ x5_3) ++ t104).size : Int) > 1000 then (some ((⟨#[]⟩ : ByteArray), 6)) else (some ((t103 ++ x5_3) ++ t104, 0))) else (none)) = some (r1, r2) := H
       have A12 := Aside0.mk A120
       clear A120
       by_cases c13 : (t103 ++ x5_3).size + t104.size ≤ 9223372036854775807
       · rw [if_pos c13] at H
         have c13b0 := eq_true c13
         have c13b1 : decide ((t103 ++ x5_3).size + t104.size ≤ 9223372036854775807) = true := decide_eq_true c13
         try have c13b2 : (9223372036854775807 < (t103 ++ x5_3).size + t104.size) = False := eq_false (Nat.not_lt.2 c13)
         try have c13b4 : (9223372036854775807 < t103.size + x5_3.size + t104.size) = False := by rw [show t103.size + x5_3.size + t104.size = (t103 ++ x5_3).size + t104.size from by simp [ByteArray.size_append] <;> (first | done | rfl | omega)]; exact c13b2
         by_cases c14 : (((t103 ++ x5_3) ++ t104).size : Int) > 1000
         · rw [if_pos c14] at H
           have c14b0 : decide (1000 < (((t103 ++ x5_3) ++ t104).size : Int)) = true := decide_eq_true c14
           try have c14b5 : decide (1000 < (t103.size : Int) + (x5_3.size : Int) + (t104.size : Int)) = true := decide_eq_true (by have h_ := c14; simp only [ByteArray.size_append] at h_; omega)
           try have c14b6 : decide (1000 < t103.size + x5_3.size + t104.size) = true := decide_eq_true (by have h_ := c14; simp only [ByteArray.size_append] at h_; omega)
           have c14b1 : decide (1000 < ((t103 ++ x5_3) ++ t104).size) = true := decide_eq_true (by omega)
           clear c14
           simp only [Option.some.injEq, Prod.mk.injEq] at H
           obtain ⟨rfl, rfl⟩ := H
           try go_wp2
           have n0_ := Aside0.mk (blk_drew BK101.out)
           have n1_ := Aside0.mk (below_drew1 HB.out)
           clear BK101
           clear HB
           have BK101 := n0_
           have HB := n1_
           clear n0_ n1_
           refine start_ (n := 10) (S := fun w' => w'.cell? ⟨gb101, 0, none⟩ = some (.slice A0_0 l0_0.length c0_0) ∧ w'.cell? ⟨gb101, 1, none⟩ = some (.slice A0_1 l0_1.length c0_1) ∧ w'.cell? ⟨gb101, 2, none⟩ = some (.bool a0_2)) (ds := []) #[false, false, false, false, false, false, false, false, false, false] (by kernel_rfl) rfl rfl ⟨(blk_cell BK101.out 0).trans rfl, (blk_cell BK101.out 1).trans rfl, (blk_cell BK101.out 2).trans rfl⟩ (fun hHeld => ?_); refine with_tabW terms_Print.tab7 terms_Print.bits7 (fun HT_ HW_ => ?_)
           generalize wc.drew = w15 at BK101 HB hHeld ⊢
           refine pure_ (i := 0) (N := some 14) (v := ?_) (a' := ?_) #[true, false, false, false, false, false, false, false, false, false] rfl rfl (any_of HT_.out (by kernel_rfl)) (fun _ _ _ h => h) (Or.inl ⟨by rfl, ?_⟩) ?_ ?_
           rotate_left
           · intro w'
             go_simp
             with_reducible rfl
           rotate_left
           · simp only [Act.put, sA_, sZ_, sS_, i64_w, i32_w]
             rfl
           refine pure_ (i := 3) (N := some 17) (v := ?_) (a' := ?_) #[true, false, false, true, false, false, false, false, false, false] rfl rfl (any_of HT_.out (by kernel_rfl)) (fun _ _ _ h => h) (Or.inl ⟨by rfl, ?_⟩) ?_ ?_
           rotate_left
           · intro w'
             go_simp
             with_reducible rfl
           rotate_left
           · simp only [Act.put, sA_, sZ_, sS_, i64_w, i32_w]
             rfl
           refine pure_ (i := 5) (N := some 19) (v := ?_) (a' := ?_) #[true, false, false, true, false, true, false, false, false, false] rfl rfl (any_of HT_.out (by kernel_rfl)) (fun _ _ _ h => h) (Or.inl ⟨by rfl, ?_⟩) ?_ ?_
           rotate_left
           · intro w'
             go_simp
             with_reducible rfl
           rotate_left
           · simp only [Act.put, sA_, sZ_, sS_, i64_w, i32_w]
             rfl
           refine take_ (i := 1) (N := some 15) (v := ?_) (a' := ?_) #[true, true, false, true, false, true, false, false, false, false] rfl rfl (take_ofW HT_.out HW_.out (by kernel_rfl)) (fun _ _ _ h => h) (Or.inl ⟨by rfl, ?_⟩) hHeld ?_ ?_
           rotate_left
           · rintro w' ⟨s0, s1, s2⟩
             go_simp
             with_reducible rfl
           rotate_left
           · simp only [Act.put, sA_, sZ_, sS_, i64_w, i32_w]
             rfl
           refine take_ (i := 6) (N := some 20) (v := ?_) (a' := ?_) #[true, true, false, true, false, true, true, false, false, false] rfl rfl (take_ofW HT_.out HW_.out (by kernel_rfl)) (fun _ _ _ h => h) (Or.inl ⟨by rfl, ?_⟩) hHeld ?_ ?_
           rotate_left
           · rintro w' ⟨s0, s1, s2⟩
             go_simp
             with_reducible rfl
           rotate_left
           · simp only [Act.put, sA_, sZ_, sS_, i64_w, i32_w]
             rfl
           refine one_ (i := 2) (N := some 16) #[true, true, true, true, false, true, true, false, false, false] rfl rfl (one_of HT_.out (by kernel_rfl)) (by decide) (fun K hK => ?_)
           refine goes_ Try.func47 (by kernel_rfl) rfl #[.slice A0_0 l0_0.length c0_0] (by rfl) rfl rfl (by (try simp only [List.map_toArray, List.map_cons, List.map_nil]); first | done | rfl | (simp only [List.length_drop, List.length_take]; rfl)) ?_
           with_reducible refine (terms_spelled.calls _ _ l0_0 t103 _ ?side1 ?side2 A10.out).mono ?_
           (case side1 => repeat (first | exact (Kd.C_below HR0_0.out HB.out) | (with_reducible refine Kd.C_alloc ?_ _) | (with_reducible refine Kd.C_drewN ?_ _) | (with_reducible refine Kd.C_drew ?_)))
           (case side2 => exact HC0_0.out)
           rintro e w16 ⟨rfl, hb⟩
           refine ⟨_, rfl, ?_⟩
           have n0_ := Aside0.mk (blk_below (g := gb101) (o := .cells #[.slice A0_0 l0_0.length c0_0, .slice A0_1 l0_1.length c0_1, .bool a0_2] 24 (0, 0)) (by (with_reducible repeat (first | refine blk_drewN ?_ _ | refine blk_drew ?_ | refine blk_alloc ?_ _)); exact BK101.out) hb)
           have n1_ := Aside0.mk (below_step (by repeat (first | (with_reducible first | exact HB.out | apply below_alloc | apply pw_below_drewN | apply below_drew1 | refine below_set ?_ GE101.out) | exact HB.out)) hb)
           clear BK101
           clear HB
           have BK101 := n0_
           have HB := n1_
           clear n0_ n1_
           (try clear hb)
           (try clear hb2)
           (try clear hk)
           (try clear hi)
           refine hK.out _ _ ⟨(blk_cell BK101.out 0).trans rfl, (blk_cell BK101.out 1).trans rfl, (blk_cell BK101.out 2).trans rfl⟩ (fun hHeld => ?_)
           clear hK K
           refine norm_ (a' := ?_) ?_ ?_
           rotate_left
           · show Act.put _ (some 16) _ = _
             simp only [Act.put, sA_, sZ_, sS_, i64_w, i32_w]
             rfl
           refine pure_ (i := 4) (N := some 18) (v := ?_) (a' := ?_) #[true, true, true, true, true, true, true, false, false, false] rfl rfl (any_of HT_.out (by kernel_rfl)) (fun _ _ _ h => h) (Or.inl ⟨by rfl, ?_⟩) ?_ ?_
           rotate_left
           · intro w'
             go_simp
             with_reducible rfl
           rotate_left
           · simp only [Act.put, sA_, sZ_, sS_, i64_w, i32_w]
             rfl
           refine one_ (i := 7) (N := some 21) #[true, true, true, true, true, true, true, true, false, false] rfl rfl (one_of HT_.out (by kernel_rfl)) (by decide) (fun K hK => ?_)
           refine goes_ Try.func47 (by kernel_rfl) rfl #[.slice A0_1 l0_1.length c0_1] (by rfl) rfl rfl (by (try simp only [List.map_toArray, List.map_cons, List.map_nil]); first | done | rfl | (simp only [List.length_drop, List.length_take]; rfl)) ?_
           with_reducible refine (terms_spelled.calls _ _ l0_1 t104 _ ?side1 ?side2 A12.out).mono ?_
           (case side1 => repeat (first | exact (Kd.C_below HR0_1.out HB.out) | (with_reducible refine Kd.C_alloc ?_ _) | (with_reducible refine Kd.C_drewN ?_ _) | (with_reducible refine Kd.C_drew ?_)))
           (case side2 => exact HC0_1.out)
           rintro e w17 ⟨rfl, hb⟩
           refine ⟨_, rfl, ?_⟩
           have n0_ := Aside0.mk (blk_below (g := gb101) (o := .cells #[.slice A0_0 l0_0.length c0_0, .slice A0_1 l0_1.length c0_1, .bool a0_2] 24 (0, 0)) (by (with_reducible repeat (first | refine blk_drewN ?_ _ | refine blk_drew ?_ | refine blk_alloc ?_ _)); exact BK101.out) hb)
           have n1_ := Aside0.mk (below_step (by repeat (first | (with_reducible first | exact HB.out | apply below_alloc | apply pw_below_drewN | apply below_drew1 | refine below_set ?_ GE101.out) | exact HB.out)) hb)
           clear BK101
           clear HB
           have BK101 := n0_
           have HB := n1_
           clear n0_ n1_
           (try clear hb)
           (try clear hb2)
           (try clear hk)
           (try clear hi)
           refine hK.out _ _ ⟨(blk_cell BK101.out 0).trans rfl, (blk_cell BK101.out 1).trans rfl, (blk_cell BK101.out 2).trans rfl⟩ (fun hHeld => ?_)
           clear hK K
           refine norm_ (a' := ?_) ?_ ?_
           rotate_left
           · show Act.put _ (some 21) _ = _
             simp only [Act.put, sA_, sZ_, sS_, i64_w, i32_w]
             rfl
           refine pure_ (i := 8) (N := some 22) (v := ?_) (a' := ?_) #[true, true, true, true, true, true, true, true, true, false] rfl rfl (any_of HT_.out (by kernel_rfl)) (fun _ _ _ h => h) (Or.inl ⟨by rfl, ?_⟩) ?_ ?_
           rotate_left
           · intro w'
             go_simp
             with_reducible rfl
           rotate_left
           · simp only [Act.put, sA_, sZ_, sS_, i64_w, i32_w]
             rfl
           refine pure_ (i := 9) (N := some 6) (v := ?_) (a' := ?_) #[true, true, true, true, true, true, true, true, true, true] rfl rfl (any_of HT_.out (by kernel_rfl)) (fun _ _ _ h => h) (Or.inl ⟨by rfl, ?_⟩) ?_ ?_
           rotate_left
           · intro w'
             go_simp
             with_reducible rfl
           rotate_left
           · simp only [Act.put, sA_, sZ_, sS_, i64_w, i32_w]
             rfl
           refine done_ (done_of HT_.out (by kernel_rfl)) ?_
           try go_wp2
           go_ret2
           exact ⟨by first | rfl | (simp [errW_none, errW_some] <;> rfl) | (simp [*, errW_none, errW_some] <;> rfl), by repeat (first | (with_reducible first | exact HB.out | apply below_alloc | apply pw_below_drewN | apply below_drew1 | refine below_set ?_ GE101.out) | exact HB.out)⟩
         · rw [if_neg c14] at H
           have c14b0 : decide (1000 < (((t103 ++ x5_3) ++ t104).size : Int)) = false := decide_eq_false c14
           try have c14b5 : decide (1000 < (t103.size : Int) + (x5_3.size : Int) + (t104.size : Int)) = false := decide_eq_false (by have h_ := c14; simp only [ByteArray.size_append] at h_; omega)
           try have c14b6 : decide (1000 < t103.size + x5_3.size + t104.size) = false := decide_eq_false (by have h_ := c14; simp only [ByteArray.size_append] at h_; omega)
           have c14b1 : decide (1000 < ((t103 ++ x5_3) ++ t104).size) = false := decide_eq_false (by omega)
           clear c14
           simp only [Option.some.injEq, Prod.mk.injEq] at H
           obtain ⟨rfl, rfl⟩ := H
           try go_wp2
           have n0_ := Aside0.mk (blk_drew BK101.out)
           have n1_ := Aside0.mk (below_drew1 HB.out)
           clear BK101
           clear HB
           have BK101 := n0_
           have HB := n1_
           clear n0_ n1_
           refine start_ (n := 10) (S := fun w' => w'.cell? ⟨gb101, 0, none⟩ = some (.slice A0_0 l0_0.length c0_0) ∧ w'.cell? ⟨gb101, 1, none⟩ = some (.slice A0_1 l0_1.length c0_1) ∧ w'.cell? ⟨gb101, 2, none⟩ = some (.bool a0_2)) (ds := []) #[false, false, false, false, false, false, false, false, false, false] (by kernel_rfl) rfl rfl ⟨(blk_cell BK101.out 0).trans rfl, (blk_cell BK101.out 1).trans rfl, (blk_cell BK101.out 2).trans rfl⟩ (fun hHeld => ?_); refine with_tabW terms_Print.tab7 terms_Print.bits7 (fun HT_ HW_ => ?_)
           generalize wc.drew = w18 at BK101 HB hHeld ⊢
           refine pure_ (i := 0) (N := some 14) (v := ?_) (a' := ?_) #[true, false, false, false, false, false, false, false, false, false] rfl rfl (any_of HT_.out (by kernel_rfl)) (fun _ _ _ h => h) (Or.inl ⟨by rfl, ?_⟩) ?_ ?_
           rotate_left
           · intro w'
             go_simp
             with_reducible rfl
           rotate_left
           · simp only [Act.put, sA_, sZ_, sS_, i64_w, i32_w]
             rfl
           refine pure_ (i := 3) (N := some 17) (v := ?_) (a' := ?_) #[true, false, false, true, false, false, false, false, false, false] rfl rfl (any_of HT_.out (by kernel_rfl)) (fun _ _ _ h => h) (Or.inl ⟨by rfl, ?_⟩) ?_ ?_
           rotate_left
           · intro w'
             go_simp
             with_reducible rfl
           rotate_left
           · simp only [Act.put, sA_, sZ_, sS_, i64_w, i32_w]
             rfl
           refine pure_ (i := 5) (N := some 19) (v := ?_) (a' := ?_) #[true, false, false, true, false, true, false, false, false, false] rfl rfl (any_of HT_.out (by kernel_rfl)) (fun _ _ _ h => h) (Or.inl ⟨by rfl, ?_⟩) ?_ ?_
           rotate_left
           · intro w'
             go_simp
             with_reducible rfl
           rotate_left
           · simp only [Act.put, sA_, sZ_, sS_, i64_w, i32_w]
             rfl
           refine take_ (i := 1) (N := some 15) (v := ?_) (a' := ?_) #[true, true, false, true, false, true, false, false, false, false] rfl rfl (take_ofW HT_.out HW_.out (by kernel_rfl)) (fun _ _ _ h => h) (Or.inl ⟨by rfl, ?_⟩) hHeld ?_ ?_
           rotate_left
           · rintro w' ⟨s0, s1, s2⟩
             go_simp
             with_reducible rfl
           rotate_left
           · simp only [Act.put, sA_, sZ_, sS_, i64_w, i32_w]
             rfl
           refine take_ (i := 6) (N := some 20) (v := ?_) (a' := ?_) #[true, true, false, true, false, true, true, false, false, false] rfl rfl (take_ofW HT_.out HW_.out (by kernel_rfl)) (fun _ _ _ h => h) (Or.inl ⟨by rfl, ?_⟩) hHeld ?_ ?_
           rotate_left
           · rintro w' ⟨s0, s1, s2⟩
             go_simp
             with_reducible rfl
           rotate_left
           · simp only [Act.put, sA_, sZ_, sS_, i64_w, i32_w]
             rfl
           refine one_ (i := 2) (N := some 16) #[true, true, true, true, false, true, true, false, false, false] rfl rfl (one_of HT_.out (by kernel_rfl)) (by decide) (fun K hK => ?_)
           refine goes_ Try.func47 (by kernel_rfl) rfl #[.slice A0_0 l0_0.length c0_0] (by rfl) rfl rfl (by (try simp only [List.map_toArray, List.map_cons, List.map_nil]); first | done | rfl | (simp only [List.length_drop, List.length_take]; rfl)) ?_
           with_reducible refine (terms_spelled.calls _ _ l0_0 t103 _ ?side1 ?side2 A10.out).mono ?_
           (case side1 => repeat (first | exact (Kd.C_below HR0_0.out HB.out) | (with_reducible refine Kd.C_alloc ?_ _) | (with_reducible refine Kd.C_drewN ?_ _) | (with_reducible refine Kd.C_drew ?_)))
           (case side2 => exact HC0_0.out)
           rintro e w19 ⟨rfl, hb⟩
           refine ⟨_, rfl, ?_⟩
           have n0_ := Aside0.mk (blk_below (g := gb101) (o := .cells #[.slice A0_0 l0_0.length c0_0, .slice A0_1 l0_1.length c0_1, .bool a0_2] 24 (0, 0)) (by (with_reducible repeat (first | refine blk_drewN ?_ _ | refine blk_drew ?_ | refine blk_alloc ?_ _)); exact BK101.out) hb)
           have n1_ := Aside0.mk (below_step (by repeat (first | (with_reducible first | exact HB.out | apply below_alloc | apply pw_below_drewN | apply below_drew1 | refine below_set ?_ GE101.out) | exact HB.out)) hb)
           clear BK101
           clear HB
           have BK101 := n0_
           have HB := n1_
           clear n0_ n1_
           (try clear hb)
           (try clear hb2)
           (try clear hk)
           (try clear hi)
           refine hK.out _ _ ⟨(blk_cell BK101.out 0).trans rfl, (blk_cell BK101.out 1).trans rfl, (blk_cell BK101.out 2).trans rfl⟩ (fun hHeld => ?_)
           clear hK K
           refine norm_ (a' := ?_) ?_ ?_
           rotate_left
           · show Act.put _ (some 16) _ = _
             simp only [Act.put, sA_, sZ_, sS_, i64_w, i32_w]
             rfl
           refine pure_ (i := 4) (N := some 18) (v := ?_) (a' := ?_) #[true, true, true, true, true, true, true, false, false, false] rfl rfl (any_of HT_.out (by kernel_rfl)) (fun _ _ _ h => h) (Or.inl ⟨by rfl, ?_⟩) ?_ ?_
           rotate_left
           · intro w'
             go_simp
             with_reducible rfl
           rotate_left
           · simp only [Act.put, sA_, sZ_, sS_, i64_w, i32_w]
             rfl
           refine one_ (i := 7) (N := some 21) #[true, true, true, true, true, true, true, true, false, false] rfl rfl (one_of HT_.out (by kernel_rfl)) (by decide) (fun K hK => ?_)
           refine goes_ Try.func47 (by kernel_rfl) rfl #[.slice A0_1 l0_1.length c0_1] (by rfl) rfl rfl (by (try simp only [List.map_toArray, List.map_cons, List.map_nil]); first | done | rfl | (simp only [List.length_drop, List.length_take]; rfl)) ?_
           with_reducible refine (terms_spelled.calls _ _ l0_1 t104 _ ?side1 ?side2 A12.out).mono ?_
           (case side1 => repeat (first | exact (Kd.C_below HR0_1.out HB.out) | (with_reducible refine Kd.C_alloc ?_ _) | (with_reducible refine Kd.C_drewN ?_ _) | (with_reducible refine Kd.C_drew ?_)))
           (case side2 => exact HC0_1.out)
           rintro e w20 ⟨rfl, hb⟩
           refine ⟨_, rfl, ?_⟩
           have n0_ := Aside0.mk (blk_below (g := gb101) (o := .cells #[.slice A0_0 l0_0.length c0_0, .slice A0_1 l0_1.length c0_1, .bool a0_2] 24 (0, 0)) (by (with_reducible repeat (first | refine blk_drewN ?_ _ | refine blk_drew ?_ | refine blk_alloc ?_ _)); exact BK101.out) hb)
           have n1_ := Aside0.mk (below_step (by repeat (first | (with_reducible first | exact HB.out | apply below_alloc | apply pw_below_drewN | apply below_drew1 | refine below_set ?_ GE101.out) | exact HB.out)) hb)
           clear BK101
           clear HB
           have BK101 := n0_
           have HB := n1_
           clear n0_ n1_
           (try clear hb)
           (try clear hb2)
           (try clear hk)
           (try clear hi)
           refine hK.out _ _ ⟨(blk_cell BK101.out 0).trans rfl, (blk_cell BK101.out 1).trans rfl, (blk_cell BK101.out 2).trans rfl⟩ (fun hHeld => ?_)
           clear hK K
           refine norm_ (a' := ?_) ?_ ?_
           rotate_left
           · show Act.put _ (some 21) _ = _
             simp only [Act.put, sA_, sZ_, sS_, i64_w, i32_w]
             rfl
           refine pure_ (i := 8) (N := some 22) (v := ?_) (a' := ?_) #[true, true, true, true, true, true, true, true, true, false] rfl rfl (any_of HT_.out (by kernel_rfl)) (fun _ _ _ h => h) (Or.inl ⟨by rfl, ?_⟩) ?_ ?_
           rotate_left
           · intro w'
             go_simp
             with_reducible rfl
           rotate_left
           · simp only [Act.put, sA_, sZ_, sS_, i64_w, i32_w]
             rfl
           refine pure_ (i := 9) (N := some 6) (v := ?_) (a' := ?_) #[true, true, true, true, true, true, true, true, true, true] rfl rfl (any_of HT_.out (by kernel_rfl)) (fun _ _ _ h => h) (Or.inl ⟨by rfl, ?_⟩) ?_ ?_
           rotate_left
           · intro w'
             go_simp
             with_reducible rfl
           rotate_left
           · simp only [Act.put, sA_, sZ_, sS_, i64_w, i32_w]
             rfl
           refine done_ (done_of HT_.out (by kernel_rfl)) ?_
           try go_wp2
           go_ret2
           exact ⟨by first | rfl | (simp [errW_none, errW_some] <;> rfl) | (simp [*, errW_none, errW_some] <;> rfl), by repeat (first | (with_reducible first | exact HB.out | apply below_alloc | apply pw_below_drewN | apply below_drew1 | refine below_set ?_ GE101.out) | exact HB.out)⟩
       · rw [if_neg c13] at H
         exact absurd H (by simp)
     · rw [if_neg c11] at H
       exact absurd H (by simp)
 · rw [if_neg c3] at H
   have c3b0 : (t102 == 0) = false := beq_eq_false_iff_ne.mpr c3
   have c3b1 : (t102 != 0) = true := bne_iff_ne.mpr c3
   simp only [Option.some.injEq, Prod.mk.injEq] at H
   obtain ⟨rfl, rfl⟩ := H
   go_enter Try.func17, Try.ntmps17
   go_wp2_with (first | ((with_reducible refine gate_dst (N := 1) rfl ?_); refine box_event ?hg (N := 1) ?hd (cs := #[.slice A0_0 l0_0.length c0_0, .slice A0_1 l0_1.length c0_1, .bool a0_2]) (t := 24) ?hr ?_; (case hd => rfl); (case hg => rfl); (case hr => first | (go_simp; done) | (go_simp; rfl)); intro gb101 hg w21 hbox hb; have n0_ := Aside0.mk (below_step (by repeat (first | (with_reducible first | exact HB.out | apply below_alloc | apply pw_below_drewN | apply below_drew1) | exact HB.out)) hb); have n1_ := Aside0.mk (hbox); have n2_ := Aside0.mk ((by rw [hg]; exact (below_size (by repeat (first | (with_reducible first | exact HB.out | apply below_alloc | apply pw_below_drewN | apply below_drew1) | exact HB.out))) : w.heap.size ≤ gb101)); have n3_ := Aside0.mk ((by rw [hg]; exact (below_size (by repeat (first | (with_reducible first | exact HB.out | apply below_alloc | apply pw_below_drewN | apply below_drew1) | exact HB.out))) : w.heap.size ≤ gb101)); clear HB; have HB := n0_; have BK101 := n1_; have GW101 := n2_; have GE101 := n3_; clear n0_ n1_ n2_ n3_; clear hb hbox hg; have hcz22_0 : w21.cell? ⟨gb101, 0, none⟩ = some (.slice A0_0 l0_0.length c0_0) := (blk_cell BK101.out 0).trans rfl; have hcz22_1 : w21.cell? ⟨gb101, 1, none⟩ = some (.slice A0_1 l0_1.length c0_1) := (blk_cell BK101.out 1).trans rfl; have hcz22_2 : w21.cell? ⟨gb101, 2, none⟩ = some (.bool a0_2) := (blk_cell BK101.out 2).trans rfl; have hfz22_0 := blk_frozen BK101.out 0; have hfz22_1 := blk_frozen BK101.out 1; have hfz22_2 := blk_frozen BK101.out 2) | ((with_reducible refine gate_callee (f := 24) rfl ?_); refine goesL_ (some 8) rfl rfl Try.func24 (by kernel_rfl) rfl #[.agg #[.slice A0_0 l0_0.length c0_0, .slice A0_1 l0_1.length c0_1, .bool a0_2]] rfl (by (try simp only [List.map_toArray, List.map_cons, List.map_nil]); first | done | rfl | (simp only [List.length_drop, List.length_take]; rfl)) ?_; (with_reducible refine (terms_Check.calls k _ _ l0_0 _ _ l0_1 a0_2 t102 _ ?side1 ?side2 ?side3 ?side4 A2.out).mono ?_); (case side1 => repeat (first | exact (Kd.C_below HR0_0.out HB.out) | (with_reducible refine Kd.C_alloc ?_ _) | (with_reducible refine Kd.C_drewN ?_ _) | (with_reducible refine Kd.C_drew ?_))); (case side2 => exact HC0_0.out); (case side3 => repeat (first | exact (Kd.C_below HR0_1.out HB.out) | (with_reducible refine Kd.C_alloc ?_ _) | (with_reducible refine Kd.C_drewN ?_ _) | (with_reducible refine Kd.C_drew ?_))); (case side4 => exact HC0_1.out); rintro e w23 ⟨rfl, hb⟩; refine ⟨_, rfl, ?_⟩; have n0_ := Aside0.mk (blk_below (g := gb101) (o := .cells #[.slice A0_0 l0_0.length c0_0, .slice A0_1 l0_1.length c0_1, .bool a0_2] 24 (0, 0)) (by (with_reducible repeat (first | refine blk_drewN ?_ _ | refine blk_drew ?_ | refine blk_alloc ?_ _)); exact BK101.out) hb); have n1_ := Aside0.mk (below_step (by repeat (first | (with_reducible first | exact HB.out | apply below_alloc | apply pw_below_drewN | apply below_drew1 | refine below_set ?_ GE101.out) | exact HB.out)) hb); clear BK101; clear HB; have BK101 := n0_; have HB := n1_; clear n0_ n1_; (try clear hb); (try clear hb2); (try clear hk); (try clear hi)))
   go_ret2
   exact ⟨by first | rfl | (simp [errW_none, errW_some] <;> rfl) | (simp [*, errW_none, errW_some] <;> rfl), by repeat (first | (with_reducible first | exact HB.out | apply below_alloc | apply pw_below_drewN | apply below_drew1 | refine below_set ?_ GE101.out) | exact HB.out)⟩

end Go.Proofs.Ytcbkihhpnndpkaa.PG
