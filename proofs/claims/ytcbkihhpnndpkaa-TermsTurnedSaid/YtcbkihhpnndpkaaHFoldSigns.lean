/- way[signs].folded: contract, out of the three functions that it is handed. -/
import Derived.Test.YtcbkihhpnndpkaaQ1
import Derived.Deep.CutBlock
import Derived.Deep.DeepCutAuto
import Derived.Deep.RegionHeld3
import Derived.IntWalk
import Derived.Outline
set_option linter.unusedVariables false
set_option linter.unusedSimpArgs false
namespace Go.Proofs.Ytcbkihhpnndpkaa.HFoldSigns
open Go.RowKit Go.Proofs.YtcbkihhpnndpkaaW.PrintWords Go.Proofs.YtcbkihhpnndpkaaW.PrintLast Go.Proofs.YtcbkihhpnndpkaaW.PrintMore
open Go.Proofs.Ytcbkihhpnndpkaa Go.Proofs.Ytcbkihhpnndpkaa.PA

abbrev E := List S97
def kE : Kd E := Kd.slice 97 k97
set_option maxRecDepth 100000 in
theorem sizeE : (Try.prog.info? 22).map (·.size) = some 1 := by kernel_rfl
theorem szE : kE.sz = 1 := rfl
theorem infoE : (Try.prog.info? 22).map (fun i => (i.zero, i.size, i.bytes)) = some (some (.slice none 0 0), 1, 24) := by kernel_rfl

/-- A sign onto the pile. -/
def put (leaf : S97 → Option E) (times : E → E → Option E) (omega : E → Option E) (st : List E) (s : S97) : Option (List E) :=
 if s.f0 = 3 then (if 2 ≤ st.length then (times (st.getD (st.length - 2) []) (st.getD (st.length - 1) [])).map (fun x => st.take (st.length - 2) ++ [x]) else none)
 else if s.f0 = 4 then (if 1 ≤ st.length then (omega (st.getD (st.length - 1) [])).map (fun x => st.set (st.length - 1) x) else none)
 else (leaf s).map (fun x => st ++ [x])
def run (leaf : S97 → Option E) (times : E → E → Option E) (omega : E → Option E) : List S97 → List E → Option E
 | [], st => st.head?
 | s :: l, st => (put leaf times omega st s).bind (run leaf times omega l)

/-- The function, with what it captured, does g to a value. -/
def Leaf (w : World) (g : S97 → Option E) : Prop := ∀ w', Below w.heap.size w w' → ∀ s r, g s = some r →
 Calls Try.prog 104 #[.agg #[.int .i64 s.f0, .int .u8 s.f1]] w' fun e w'' => ∃ v, e = .returned v ∧ Kd.R k97 97 w'' w'.heap.size (fun _ => True) v r ∧ Below w'.heap.size w' w''
def Omega (p : Addr) (w : World) (g : E → Option E) : Prop := ∀ w', Below w.heap.size w w' → ∀ s r A ca, Kd.C k97 w' A s.length s → s.length ≤ ca → g s = some r →
 Calls Try.prog 106 #[.slice A s.length ca, .pointer (some p)] w' fun e w'' => ∃ v, e = .returned v ∧ Kd.R k97 97 w'' w'.heap.size (fun _ => True) v r ∧ Below w'.heap.size w' w''
def Times (p : Addr) (w : World) (g : E → E → Option E) : Prop := ∀ w', Below w.heap.size w w' → ∀ s t r A ca B cb, Kd.C k97 w' A s.length s → s.length ≤ ca → Kd.C k97 w' B t.length t → t.length ≤ cb → g s t = some r →
 Calls Try.prog 105 #[.slice A s.length ca, .slice B t.length cb, .pointer (some p)] w' fun e w'' => ∃ v, e = .returned v ∧ Kd.R k97 97 w'' w'.heap.size (fun _ => True) v r ∧ Below w'.heap.size w' w''

abbrev u1 : Value := .func (.func 104) #[] #[]
abbrev u2 (p : Addr) : Value := .func (.func 105) #[] #[.pointer (some p)]
abbrev u3 (p : Addr) : Value := .func (.func 106) #[] #[.pointer (some p)]

/-- The pile, between two signs. -/
structure Pile (p : Addr) (w W : World) (v : Value) (st : List E) : Prop where
 bl : Below w.heap.size w W
 way : W.heap[w.heap.size]? = some (.cells #[u1, u2 p, u3 p] 167 (0, 0))
 row : Kd.R kE 22 W (w.heap.size + 1) (fun _ => True) v st
theorem Pile.low {p : Addr} {w W : World} {v : Value} {st : List E} (h : Pile p w W v st) : w.heap.size + 1 ≤ W.heap.size := by
 have := blk_lt h.way
 omega
theorem Pile.below {p : Addr} {w W W' : World} {v : Value} {st : List E} (h : Pile p w W v st) (hb : Below W.heap.size W W') : Pile p w W' v st :=
 ⟨below_then h.bl h.bl.size hb, blk_below h.way hb, Kd.R_below h.row hb⟩
theorem Pile.grown {p : Addr} {w W W' : World} {v v' : Value} {st st' : List E} (h : Pile p w W v st) (hr : Kd.R kE 22 W' (w.heap.size + 1) (fun _ => True) v' st') (hg : W.grownBy W' v.ownBlock) : Pile p w W' v' st' := by
 have hb := Kd.R_base h.row
 exact ⟨Below.grown h.bl hg h.bl.size (fun k hk => by have := hb k hk; omega), (hg.block _ (by have := h.low; omega) (fun e => by have := hb _ e.symm; omega)).trans h.way, hr⟩
theorem Pile.own {p : Addr} {w W : World} {g n c : Nat} {st : List E} (h : Pile p w W (.slice (some ⟨g, 0, none⟩) n c) st) (m : Nat) (hm : m < n) : ∃ v, W.cell? ⟨g, m, none⟩ = some v ∧ Kd.R k97 97 W (w.heap.size + 1) (fun _ => True) v (st.getD m []) := by
 obtain ⟨cs, _, hM, hcc⟩ := Kd.R_getA h.row [] (m : Int) (by omega) (by omega)
 rw [Int.toNat_natCast] at hM hcc
 obtain ⟨v, rfl, hv⟩ := hM
 have k0 := hcc 0 _ rfl
 rw [add_at, Nat.zero_add, szE, Nat.mul_one, Nat.add_zero] at k0
 exact ⟨v, k0, Kd.R_mono hv (fun _ _ => trivial)⟩
theorem Pile.at {p : Addr} {w W : World} {g n c : Nat} {st : List E} (h : Pile p w W (.slice (some ⟨g, 0, none⟩) n c) st) (m : Nat) (hm : m < n) : ∃ A ca, W.cell? ⟨g, m, none⟩ = some (.slice A (st.getD m []).length ca) ∧ (st.getD m []).length ≤ ca ∧ Kd.C k97 W A (st.getD m []).length (st.getD m []) := by
 obtain ⟨v, hv, hr⟩ := h.own m hm
 obtain ⟨A, ca, rfl, hl, hc⟩ := Kd.R_reads hr
 exact ⟨A, ca, hv, hl, hc⟩
theorem stay {w w' : World} (hb : Below w.heap.size w w') {a : Addr} {v : Value} (hc : w.cell? a = some v) : w'.cell? a = some v := (hb.cell (World.block_lt_of_cell? w a hc)).trans hc
/-- A row made since is an element to be laid down. -/
theorem fresh {w0 W : World} {base : Nat} {v V : Value} {y : E} (h : Kd.R k97 97 W w0.heap.size (fun _ => True) v y) (hV : ∀ k, V.ownBlock = some k → k < w0.heap.size) (hb : base ≤ w0.heap.size) : kE.M W base (fun k => True ∧ some k ≠ V.ownBlock) y [v] :=
 ⟨v, rfl, Kd.R_lower (Kd.R_mono (Kd.R_bound h) (fun k hk => ⟨trivial, fun e => by have := hV k e.symm; have := hk.2.1; omega⟩)) hb⟩
theorem Pile.put {p : Addr} {w w0 W : World} {g n c : Nat} {st : List E} (h : Pile p w W (.slice (some ⟨g, 0, none⟩) n c) st) (m : Nat) (hm : m < n) {v : Value} {y : E} (hv : Kd.R k97 97 W w0.heap.size (fun _ => True) v y) (hg : g < w0.heap.size) (hb : w.heap.size + 1 ≤ w0.heap.size) : Pile p w (W.setCells g m [v]) (.slice (some ⟨g, 0, none⟩) n c) (st.set m y) := by
 obtain ⟨cs, hcl, hM, hcc⟩ := Kd.R_getA h.row [] (m : Int) (by omega) (by omega)
 obtain ⟨u, rfl, hu⟩ := hM
 obtain ⟨hr, hg⟩ := Kd.R_seg (j := 0) (seg := [v]) (x' := y) h.row (m : Int) (by omega) (by omega) hcl (fun j u hu => by have q := hcc j u hu; rw [add_at, Nat.zero_add] at q; exact q) (by simp [szE]) (okp := fun k => True ∧ some k ≠ (Value.slice (some ⟨g, 0, none⟩) n c).ownBlock) (by simpa using fresh hv (fun k hk => by simp [Value.ownBlock] at hk; omega) hb) (fun k hk => ⟨trivial, fun e => hk.2 (by simp [Value.ownBlock, e])⟩)
 rw [Int.toNat_natCast, szE, Nat.mul_one, Nat.add_zero] at hr hg
 exact h.grown hr hg
set_option maxRecDepth 100000 in
theorem Pile.store {p : Addr} {w W : World} {g n c : Nat} {st : List E} (h : Pile p w W (.slice (some ⟨g, 0, none⟩) n c) st) (m : Nat) (hm : m < n) (A : Option Addr) (q r : Nat) : (Instr.storeAt 22 (.pointer (some ⟨g, m, none⟩)) (.slice A q r)).run Try.prog W = .ok () (W.setCells g m [.slice A q r]) := by
 have hn := (Kd.R_reads' h.row).1
 obtain ⟨_, inner, ho, hr⟩ := h.row
 rcases ho.2 with ⟨hv, _⟩ | ⟨g', cap', cur, hv, hb, hh, hnc, hcm, hcs, _⟩
 · cases hv
 · injection hv with ha _ hc
   injection ha with ha
   injection ha with hg'
   subst hg'; subst hc
   have hs : cur.size = c * 1 := hcs
   refine run_store_run 22 (.slice A q r) _ hh rfl sizeE ?_ (by intro q hq; simp at hq; rcases hq with rfl; rfl)
   simp
   omega

set_option maxHeartbeats 400000 in
set_option maxRecDepth 100000 in
theorem calls (leaf : S97 → Option E) (times : E → E → Option E) (omega : E → Option E) (p : Addr) (w : World) (h1 : Leaf w leaf) (h2 : Times p w times) (h3 : Omega p w omega)
 (A0 : Option Addr) (c0 : Nat) (l : List S97) (hl : Kd.C k97 w A0 l.length l) (hc : l.length ≤ c0) (hn : l.length ≤ 400) (r : E) (h : run leaf times omega l [] = some r) :
 Calls Try.prog 107 #[.agg #[u1, u2 p, u3 p], .slice A0 l.length c0] w fun e w' => ∃ v, e = .returned v ∧ Kd.R k97 97 w' w.heap.size (fun _ => True) v r ∧ Below w.heap.size w w' := by
 have H1 := Aside0.mk h1
 have H2 := Aside0.mk h2
 have H3 := Aside0.mk h3
 have HC := Aside0.mk hl
 have HR := Aside0.mk h
 clear h1 h2 h3 hl h
 go_enter Try.func107, Try.ntmps107
 go_wp2_with fail
 go_loopw [5, 12] (fun v5 v12 wr => ∃ (i : Nat) (st : List E), v12 = .int .i64 i ∧ i ≤ l.length ∧ Aside0 (run leaf times omega (l.drop i) st = some r) ∧ Aside0 (st.length ≤ i) ∧ Aside0 (Pile p w wr v5 st)) (fun _ v12 _ => l.length - (intOf v12).toNat)
 case atStart => exact ⟨0, [], rfl, Nat.zero_le _, HR, ⟨Nat.zero_le _⟩, ⟨below_alloc (Below.refl _ _) _, blk_new w _, Kd.R_nil _ _ _ _ _⟩⟩
 case round =>
  obtain ⟨i, st, rfl, hi, HR', HS, HP⟩ := hrel
  clear HR
  obtain ⟨A, c, rfl⟩ := Kd.R_slice HP.out.row
  by_cases hlt : i < l.length
  · obtain ⟨ad, he, hx0, hx1⟩ := at_T97 (Kd.C_below HC.out HP.out.bl) (i : Int) (by omega) (by omega)
    obtain rfl := he
    rw [Int.toNat_natCast] at hx0 hx1
    have hd : l.drop i = rd_T97 l i :: l.drop (i + 1) := by
     rw [List.drop_eq_getElem_cons hlt]
     simp [rd_T97, hlt]
    have h := HR'.out
    rw [hd] at h
    clear HR' hd
    simp only [run] at h
    cases hp : put leaf times omega st (rd_T97 l i) with
    | none => rw [hp] at h; cases h
    | some st' =>
    rw [hp] at h
    have HN := Aside0.mk (show run leaf times omega (l.drop (i + 1)) st' = some r from h)
    clear h
    unfold put at hp
    generalize rd_T97 l i = s at *
    have p1 : (0 ≤ (i : Int)) = True := eq_true (by omega)
    have q1 : ((i : Int) < (l.length : Int)) = True := eq_true (by omega)
    have HQ := HP.out.below (below_alloc (Below.refl _ _) (.cells #[.int .i64 s.f0, .int .u8 s.f1] 97))
    have hw0 : (wr.alloc (.cells #[.int .i64 s.f0, .int .u8 s.f1] 97)).cell? ⟨w.heap.size, 0, none⟩ = some u1 := (blk_cell HQ.way 0).trans rfl
    have hw1 : (wr.alloc (.cells #[.int .i64 s.f0, .int .u8 s.f1] 97)).cell? ⟨w.heap.size, 1, none⟩ = some (u2 p) := (blk_cell HQ.way 1).trans rfl
    have hw2 : (wr.alloc (.cells #[.int .i64 s.f0, .int .u8 s.f1] 97)).cell? ⟨w.heap.size, 2, none⟩ = some (u3 p) := (blk_cell HQ.way 2).trans rfl
    have HQ := Aside0.mk HQ
    by_cases k3 : s.f0 = 3
    · rw [if_pos k3] at hp
      have e3 : (s.f0 == 3) = true := beq_iff_eq.mpr k3
      clear k3
      by_cases hpos : 2 ≤ st.length
      · rw [if_pos hpos] at hp
        obtain ⟨g, cap, hv, hg1, hg2, _⟩ := Kd.R_form HP.out.row (by omega)
        injection hv with ha _ hcap
        subst ha hcap
        obtain ⟨m, hm⟩ : ∃ m, st.length = m + 2 := ⟨st.length - 2, by omega⟩
        rw [hm] at hp HP HQ
        rw [show m + 2 - 2 = m from rfl, show m + 2 - 1 = m + 1 from rfl] at hp
        cases hx : times (st.getD m []) (st.getD (m + 1) []) with
        | none => rw [hx] at hp; cases hp
        | some y =>
        rw [hx] at hp
        obtain rfl := Option.some.inj hp
        obtain ⟨Ax, cx, k0, lx, gx⟩ := HQ.out.at m (by omega)
        obtain ⟨Az, cz, k1, lz, gz⟩ := HQ.out.at (m + 1) (by omega)
        have GX := Aside0.mk gx
        have GZ := Aside0.mk gz
        clear gx gz
        generalize st.getD m [] = x at *
        generalize st.getD (m + 1) [] = z at *
        have HX := Aside0.mk hx
        have HM := Aside0.mk hm
        have hb : (m : Int) ≤ 400 := by have := HS.out; omega
        have hroom : m + 2 ≤ c := (Kd.R_reads' HQ.out.row).2.1
        obtain ⟨i0, hi0, _, hsz, _⟩ := info_parts infoE
        rw [hm]
        clear hx hp hm hpos
        go_upto_region 9 with fail
        generalize (wr.alloc (.cells #[.int .i64 s.f0, .int .u8 s.f1] 97)) = w1 at *
        have HLT := Aside0.mk (show g < w1.heap.size from Kd.R_lt HQ.out.row g rfl)
        have hs1 : IntKind.i64.wrap (m : Int) = (m : Int) := IntWalk.i64_in _ (by omega)
        have hs0 : IntKind.i64.wrap ((m : Int) + 2 - 2) = (m : Int) := by rw [show (m : Int) + 2 - 2 = m by omega]; exact hs1
        have hs2 : IntKind.i64.wrap ((m : Int) + 1) = (m : Int) + 1 := IntWalk.i64_in _ (by omega)
        have hs3 : IntKind.i64.wrap ((m : Int) + 2 - 1) = (m : Int) + 1 := by rw [show (m : Int) + 2 - 1 = m + 1 by omega]; exact hs2
        have hs4 : ((m : Int)).toNat = m := by omega
        have hs5 : ((m : Int) + 1).toNat = m + 1 := by omega
        have hs6 : (0 : Int) ≤ (m : Int) := by omega
        have hs7 : (m : Int) < (m : Int) + 2 := by omega
        have hs8 : (0 : Int) ≤ (m : Int) + 1 := by omega
        have hs9 : (m : Int) + 1 < (m : Int) + 2 := by omega
        go_cut [9] (fun v9 wd => Aside0 (Kd.R k97 97 wd w1.heap.size (fun _ => True) v9 y) ∧ Aside0 (Pile p w wd (.slice (some ⟨g, 0, none⟩) (m + 2) c) st))
        case first =>
         refine start_ (n := 14) (S := fun w' => w'.cell? ⟨w.heap.size, 1, none⟩ = some (u2 p) ∧ w'.cell? ⟨g, m, none⟩ = some (.slice Ax x.length cx) ∧ w'.cell? ⟨g, m + 1, none⟩ = some (.slice Az z.length cz)) (ds := [12]) #[false, false, false, false, false, false, false, false, false, false, false, false, false, false] (by kernel_rfl) rfl rfl ⟨hw1, k0, k1⟩ (fun hHeld => ?_)
         refine pure_ (i := 0) (N := (some 29)) (v := ?_) (a' := ?_) #[true, false, false, false, false, false, false, false, false, false, false, false, false, false] rfl rfl (by kernel_rfl) (fun _ _ _ h => h) (Or.inl ⟨by rfl, ?_⟩) ?_ ?_
         rotate_left
         · intro w'
           go_simp
           with_reducible rfl
         rotate_left
         · simp only [Act.put, sA_, sZ_, sS_, i64_w, i32_w]
           rfl
         refine pure_ (i := 2) (N := (some 31)) (v := ?_) (a' := ?_) #[true, false, true, false, false, false, false, false, false, false, false, false, false, false] rfl rfl (by kernel_rfl) (fun _ _ _ h => h) (Or.inl ⟨by rfl, ?_⟩) ?_ ?_
         rotate_left
         · intro w'
           go_simp
           with_reducible rfl
         rotate_left
         · simp only [Act.put, sA_, sZ_, sS_, i64_w, i32_w]
           rfl
         refine pure_ (i := 3) (N := (some 32)) (v := ?_) (a' := ?_) #[true, false, true, true, false, false, false, false, false, false, false, false, false, false] rfl rfl (by kernel_rfl) (fun _ _ _ h => h) (Or.inl ⟨by rfl, ?_⟩) ?_ ?_
         rotate_left
         · intro w'
           go_simp
           with_reducible rfl
         rotate_left
         · simp only [Act.put, sA_, sZ_, sS_, i64_w, i32_w]
           rfl
         refine pure_ (i := 4) (N := (some 33)) (v := ?_) (a' := ?_) #[true, false, true, true, true, false, false, false, false, false, false, false, false, false] rfl rfl (by kernel_rfl) (fun _ _ _ h => h) (Or.inl ⟨by rfl, ?_⟩) ?_ ?_
         rotate_left
         · intro w'
           go_simp
           with_reducible rfl
         rotate_left
         · simp only [Act.put, sA_, sZ_, sS_, i64_w, i32_w]
           rfl
         refine pure_ (i := 5) (N := (some 34)) (v := ?_) (a' := ?_) #[true, false, true, true, true, true, false, false, false, false, false, false, false, false] rfl rfl (by kernel_rfl) (fun _ _ _ h => h) (Or.inl ⟨by rfl, ?_⟩) ?_ ?_
         rotate_left
         · intro w'
           go_simp
           with_reducible rfl
         rotate_left
         · simp only [Act.put, sA_, sZ_, sS_, i64_w, i32_w]
           rfl
         refine pure_ (i := 7) (N := (some 36)) (v := ?_) (a' := ?_) #[true, false, true, true, true, true, false, true, false, false, false, false, false, false] rfl rfl (by kernel_rfl) (fun _ _ _ h => h) (Or.inl ⟨by rfl, ?_⟩) ?_ ?_
         rotate_left
         · intro w'
           go_simp
           with_reducible rfl
         rotate_left
         · simp only [Act.put, sA_, sZ_, sS_, i64_w, i32_w]
           rfl
         refine pure_ (i := 8) (N := (some 37)) (v := ?_) (a' := ?_) #[true, false, true, true, true, true, false, true, true, false, false, false, false, false] rfl rfl (by kernel_rfl) (fun _ _ _ h => h) (Or.inl ⟨by rfl, ?_⟩) ?_ ?_
         rotate_left
         · intro w'
           go_simp
           with_reducible rfl
         rotate_left
         · simp only [Act.put, sA_, sZ_, sS_, i64_w, i32_w]
           rfl
         refine pure_ (i := 9) (N := (some 38)) (v := ?_) (a' := ?_) #[true, false, true, true, true, true, false, true, true, true, false, false, false, false] rfl rfl (by kernel_rfl) (fun _ _ _ h => h) (Or.inl ⟨by rfl, ?_⟩) ?_ ?_
         rotate_left
         · intro w'
           go_simp
           with_reducible rfl
         rotate_left
         · simp only [Act.put, sA_, sZ_, sS_, i64_w, i32_w]
           rfl
         refine pure_ (i := 10) (N := (some 39)) (v := ?_) (a' := ?_) #[true, false, true, true, true, true, false, true, true, true, true, false, false, false] rfl rfl (by kernel_rfl) (fun _ _ _ h => h) (Or.inl ⟨by rfl, ?_⟩) ?_ ?_
         rotate_left
         · intro w'
           go_simp
           with_reducible rfl
         rotate_left
         · simp only [Act.put, sA_, sZ_, sS_, i64_w, i32_w]
           rfl
         refine take_ (i := 1) (N := (some 30)) (v := ?_) (a' := ?_) #[true, true, true, true, true, true, false, true, true, true, true, false, false, false] rfl rfl (by kernel_rfl) (fun _ _ _ h => h) (Or.inl ⟨by rfl, ?_⟩) hHeld ?_ ?_
         rotate_left
         · rintro w' ⟨s0, s1, s2⟩
           go_simp
           with_reducible rfl
         rotate_left
         · simp only [Act.put, sA_, sZ_, sS_, i64_w, i32_w]
           rfl
         refine take_ (i := 6) (N := (some 35)) (v := ?_) (a' := ?_) #[true, true, true, true, true, true, true, true, true, true, true, false, false, false] rfl rfl (by kernel_rfl) (fun _ _ _ h => h) (Or.inl ⟨by rfl, ?_⟩) hHeld ?_ ?_
         rotate_left
         · rintro w' ⟨s0, s1, s2⟩
           go_simp
           with_reducible rfl
         rotate_left
         · simp only [Act.put, sA_, sZ_, sS_, i64_w, i32_w]
           rfl
         refine take_ (i := 11) (N := (some 40)) (v := ?_) (a' := ?_) #[true, true, true, true, true, true, true, true, true, true, true, true, false, false] rfl rfl (by kernel_rfl) (fun _ _ _ h => h) (Or.inl ⟨by rfl, ?_⟩) hHeld ?_ ?_
         rotate_left
         · rintro w' ⟨s0, s1, s2⟩
           go_simp
           with_reducible rfl
         rotate_left
         · simp only [Act.put, sA_, sZ_, sS_, i64_w, i32_w]
           rfl
         refine last_ (i := 12) (N := (some 41)) #[true, true, true, true, true, true, true, true, true, true, true, true, true, false] rfl rfl (by kernel_rfl) (by decide) (fun K hK => ?_)
         have HQ1 := Aside0.mk (HQ.out.below (below_drew (Below.refl _ _)))
         refine call_ 105 #[.slice Ax x.length cx, .slice Az z.length cz, .pointer (some p)] (by rfl) rfl (by go_simp) ?_
         refine (H2.out _ HQ1.out.bl _ _ _ _ _ _ _ (Kd.C_drew GX.out) lx (Kd.C_drew GZ.out) lz HX.out).mono ?_
         rintro e w2 ⟨v, rfl, hv, hb2⟩
         refine ⟨_, rfl, ?_⟩
         have HV := Aside0.mk hv
         have HP2 := Aside0.mk (HQ1.out.below hb2)
         have HB2 := Aside0.mk hb2
         clear hb2 hv
         refine hK.out _ _ ?_
         clear hK K
         refine norm_ (a' := ?_) ?_ ?_
         rotate_left
         · show Act.put _ (some 41) _ = _
           simp only [Act.put, sA_, sZ_, sS_, i64_w, i32_w]
           rfl
         refine pure_ (i := 13) (N := (some 9)) (v := ?_) (a' := ?_) #[true, true, true, true, true, true, true, true, true, true, true, true, true, true] rfl rfl (by kernel_rfl) (fun _ _ _ h => h) (Or.inl ⟨by rfl, ?_⟩) ?_ ?_
         rotate_left
         · intro w'
           go_simp
           with_reducible rfl
         rotate_left
         · simp only [Act.put, sA_, sZ_, sS_, i64_w, i32_w]
           rfl
         refine done_ (by kernel_rfl) ?_
         go_wp2_with fail
         go_meet
         exact ⟨HV, HP2⟩
        case rest =>
         obtain ⟨HV, HP3⟩ := hcut
         have HLW := Aside0.mk HQ.out.low
         obtain ⟨A9, c9, rfl⟩ := Kd.R_slice HV.out
         clear hw0 hw1 hw2 k0 k1 HP HQ HX GX GZ
         have hcut2 := cut_to (P := Try.prog) 168 22 .i64 Try.underlying168 hi0 (some ⟨g, 0, none⟩) (m + 2) c (m : Int) (by omega) (by omega) hroom
         rw [Int.toNat_natCast] at hcut2
         have HT : Pile p w wc (.slice (some ⟨g, 0, none⟩) m c) (st.take m) :=
          ⟨HP3.out.bl, HP3.out.way, Kd.R_take HP3.out.row (by have := HM.out; omega)⟩
         have HT := Aside0.mk HT
         have HL := Aside0.mk HP3.out.low
         go_wp2_with ((with_reducible refine gate_builtin (b := .append) (xs := #[.tmp 45, .tmp 47]) rfl ?_); at_builtin; refine Kd.R_append kE (w0 := wc) (w.heap.size + 1) rfl (.tmp 45) (.tmp 47) 168 22 (.slice none 0 0) 24 rfl Try.underlying168 infoE rfl (by decide) (by omega) (.slice (some ⟨g, 0, none⟩) m c) (st.take m) y [_] (fun _ => True) (fun k => True ∧ some k ≠ (Value.slice (some ⟨g, 0, none⟩) m c).ownBlock) rfl rfl (fresh HV.out (fun k hk => by simp [Value.ownBlock] at hk; have := HLT.out; omega) (by have := HLW.out; omega)) (fun _ hk => hk) (fun _ _ => trivial) HT.out.row (Below.refl _ _) HL.out (by rw [List.length_take]; omega) ?_; intro v5 w5 ho5 hb5 hg5 hat5)
         have HF := Aside0.mk (HT.out.grown ho5 hg5)
         have HZ : (st.take m ++ [y]).length = m + 1 := by rw [List.length_append, List.length_take]; have := HM.out; simp; omega
         have HZ := Aside0.mk HZ
         clear ho5 hb5 hg5 hat5
         go_roundw
         case rel => exact ⟨i + 1, st.take m ++ [y], by go_num, by omega, HN, ⟨by have := HS.out; have := HZ.out; have := HM.out; omega⟩, HF⟩
         case measure => simp [intOf]; omega
      · rw [if_neg hpos] at hp; cases hp
    · rw [if_neg k3] at hp
      have e3 : (s.f0 == 3) = false := beq_eq_false_iff_ne.mpr k3
      by_cases k4 : s.f0 = 4
      · rw [if_pos k4] at hp
        have e4 : (s.f0 == 4) = true := beq_iff_eq.mpr k4
        clear k3 k4
        by_cases hpos : 1 ≤ st.length
        · rw [if_pos hpos] at hp
          obtain ⟨g, cap, hv, hg1, hg2, _⟩ := Kd.R_form HP.out.row hpos
          injection hv with ha _ hcap
          subst ha hcap
          obtain ⟨m, hm⟩ : ∃ m, st.length = m + 1 := ⟨st.length - 1, by omega⟩
          rw [hm] at hp HP HQ
          cases hx : omega (st.getD (m + 1 - 1) []) with
          | none => rw [hx] at hp; cases hp
          | some y =>
          rw [hx] at hp
          obtain rfl := Option.some.inj hp
          rw [show m + 1 - 1 = m from rfl] at hx
          obtain ⟨Ax, cx, k0, lx, gx⟩ := HQ.out.at m (by omega)
          have GX := Aside0.mk gx
          clear gx
          generalize st.getD m [] = x at *
          have HX := Aside0.mk hx
          have HM := Aside0.mk hm
          have p2 : (0 ≤ (m : Int)) = True := eq_true (by omega)
          have q2 : ((m : Int) < (m : Int) + 1) = True := eq_true (by omega)
          rw [hm]
          clear hx hp hm hpos
          go_upto_region 12 with fail
          generalize (wr.alloc (.cells #[.int .i64 s.f0, .int .u8 s.f1] 97)) = w1 at *
          have HLT := Aside0.mk (show g < w1.heap.size from Kd.R_lt HQ.out.row g rfl)
          have hb : (m : Int) ≤ 400 := by have := HM.out; have := HS.out; omega
          have hs1 : IntKind.i64.wrap (m : Int) = (m : Int) := IntWalk.i64_in _ (by omega)
          have hs0 : IntKind.i64.wrap ((m : Int) + 1 - 1) = (m : Int) := by rw [show (m : Int) + 1 - 1 = m by omega]; exact hs1
          have hs2 : (0 : Int) ≤ (m : Int) := by omega
          have hs3 : (m : Int) < (m : Int) + 1 := by omega
          have hs4 : ((m : Int)).toNat = m := by omega
          have hi2 := World.new_ne w1 ⟨g, m, none⟩ k0
          refine start_ (n := 13) (S := fun w' => w'.cell? ⟨w.heap.size, 2, none⟩ = some (u3 p) ∧ w'.cell? ⟨g, m, none⟩ = some (.slice Ax x.length cx)) (ds := [12]) #[false, false, false, false, false, false, false, false, false, false, false, false, false] (by kernel_rfl) rfl rfl ⟨hw2, k0⟩ (fun hHeld => ?_)
          refine pure_ (i := 0) (N := (some 51)) (v := ?_) (a' := ?_) #[true, false, false, false, false, false, false, false, false, false, false, false, false] rfl rfl (by kernel_rfl) (fun _ _ _ h => h) (Or.inl ⟨by rfl, ?_⟩) ?_ ?_
          rotate_left
          · intro w'
            go_simp
            with_reducible rfl
          rotate_left
          · simp only [Act.put, sA_, sZ_, sS_, i64_w, i32_w]
            rfl
          refine pure_ (i := 1) (N := (some 52)) (v := ?_) (a' := ?_) #[true, true, false, false, false, false, false, false, false, false, false, false, false] rfl rfl (by kernel_rfl) (fun _ _ _ h => h) (Or.inl ⟨by rfl, ?_⟩) ?_ ?_
          rotate_left
          · intro w'
            go_simp
            with_reducible rfl
          rotate_left
          · simp only [Act.put, sA_, sZ_, sS_, i64_w, i32_w]
            rfl
          refine pure_ (i := 2) (N := (some 53)) (v := ?_) (a' := ?_) #[true, true, true, false, false, false, false, false, false, false, false, false, false] rfl rfl (by kernel_rfl) (fun _ _ _ h => h) (Or.inl ⟨by rfl, ?_⟩) ?_ ?_
          rotate_left
          · intro w'
            go_simp
            with_reducible rfl
          rotate_left
          · simp only [Act.put, sA_, sZ_, sS_, i64_w, i32_w]
            rfl
          refine pure_ (i := 3) (N := (some 54)) (v := ?_) (a' := ?_) #[true, true, true, true, false, false, false, false, false, false, false, false, false] rfl rfl (by kernel_rfl) (fun _ _ _ h => h) (Or.inl ⟨by rfl, ?_⟩) ?_ ?_
          rotate_left
          · intro w'
            go_simp
            with_reducible rfl
          rotate_left
          · simp only [Act.put, sA_, sZ_, sS_, i64_w, i32_w]
            rfl
          refine pure_ (i := 5) (N := (some 56)) (v := ?_) (a' := ?_) #[true, true, true, true, false, true, false, false, false, false, false, false, false] rfl rfl (by kernel_rfl) (fun _ _ _ h => h) (Or.inl ⟨by rfl, ?_⟩) ?_ ?_
          rotate_left
          · intro w'
            go_simp
            with_reducible rfl
          rotate_left
          · simp only [Act.put, sA_, sZ_, sS_, i64_w, i32_w]
            rfl
          refine pure_ (i := 6) (N := (some 57)) (v := ?_) (a' := ?_) #[true, true, true, true, false, true, true, false, false, false, false, false, false] rfl rfl (by kernel_rfl) (fun _ _ _ h => h) (Or.inl ⟨by rfl, ?_⟩) ?_ ?_
          rotate_left
          · intro w'
            go_simp
            with_reducible rfl
          rotate_left
          · simp only [Act.put, sA_, sZ_, sS_, i64_w, i32_w]
            rfl
          refine pure_ (i := 7) (N := (some 58)) (v := ?_) (a' := ?_) #[true, true, true, true, false, true, true, true, false, false, false, false, false] rfl rfl (by kernel_rfl) (fun _ _ _ h => h) (Or.inl ⟨by rfl, ?_⟩) ?_ ?_
          rotate_left
          · intro w'
            go_simp
            with_reducible rfl
          rotate_left
          · simp only [Act.put, sA_, sZ_, sS_, i64_w, i32_w]
            rfl
          refine pure_ (i := 8) (N := (some 59)) (v := ?_) (a' := ?_) #[true, true, true, true, false, true, true, true, true, false, false, false, false] rfl rfl (by kernel_rfl) (fun _ _ _ h => h) (Or.inl ⟨by rfl, ?_⟩) ?_ ?_
          rotate_left
          · intro w'
            go_simp
            with_reducible rfl
          rotate_left
          · simp only [Act.put, sA_, sZ_, sS_, i64_w, i32_w]
            rfl
          refine take_ (i := 4) (N := (some 55)) (v := ?_) (a' := ?_) #[true, true, true, true, true, true, true, true, true, false, false, false, false] rfl rfl (by kernel_rfl) (fun _ _ _ h => h) (Or.inl ⟨by rfl, ?_⟩) hHeld ?_ ?_
          rotate_left
          · rintro w' ⟨s0, s1⟩
            go_simp
            with_reducible rfl
          rotate_left
          · simp only [Act.put, sA_, sZ_, sS_, i64_w, i32_w]
            rfl
          refine take_ (i := 9) (N := (some 60)) (v := ?_) (a' := ?_) #[true, true, true, true, true, true, true, true, true, true, false, false, false] rfl rfl (by kernel_rfl) (fun _ _ _ h => h) (Or.inl ⟨by rfl, ?_⟩) hHeld ?_ ?_
          rotate_left
          · rintro w' ⟨s0, s1⟩
            go_simp
            with_reducible rfl
          rotate_left
          · simp only [Act.put, sA_, sZ_, sS_, i64_w, i32_w]
            rfl
          refine one_ (i := 10) (N := (some 61)) #[true, true, true, true, true, true, true, true, true, true, true, false, false] rfl rfl (by kernel_rfl) (by decide) (fun K hK => ?_)
          have HQ1 := Aside0.mk (HQ.out.below (below_drew (Below.refl _ _)))
          refine call_ 106 #[.slice Ax x.length cx, .pointer (some p)] (by rfl) rfl (by go_simp) ?_
          refine (H3.out _ HQ1.out.bl _ _ _ _ (Kd.C_drew GX.out) lx HX.out).mono ?_
          rintro e w2 ⟨v, rfl, hv, hb2⟩
          refine ⟨_, rfl, ?_⟩
          have HV := Aside0.mk hv
          have HP2 := Aside0.mk (HQ1.out.below hb2)
          have HB2 := Aside0.mk hb2
          clear hb2 hv
          obtain ⟨A9, c9, rfl⟩ := Kd.R_slice HV.out
          refine hK.out _ _ (⟨stay HB2.out hw2, stay HB2.out k0⟩) (fun hHeld => ?_)
          clear hK K
          refine norm_ (a' := ?_) ?_ ?_
          rotate_left
          · show Act.put _ (some 61) _ = _
            simp only [Act.put, sA_, sZ_, sS_, i64_w, i32_w]
            rfl
          refine pure_ (i := 11) (N := (some 62)) (v := ?_) (a' := ?_) #[true, true, true, true, true, true, true, true, true, true, true, true, false] rfl rfl (by kernel_rfl) (fun _ _ _ h => h) (Or.inl ⟨by rfl, ?_⟩) ?_ ?_
          rotate_left
          · intro w'
            go_simp
            with_reducible rfl
          rotate_left
          · simp only [Act.put, sA_, sZ_, sS_, i64_w, i32_w]
            rfl
          refine last_ (i := 12) (N := none) #[true, true, true, true, true, true, true, true, true, true, true, true, true] rfl rfl (by kernel_rfl) (by decide) (fun K hK => ?_)
          refine skip_ (w1 := w2.setCells g m [.slice A9 y.length c9]) (by rfl) rfl ?_ ?_
          · have hrun := HP2.out.store m (Nat.lt_succ_self m) A9 y.length c9
            simp [execOp, Act.eval, hrun]
          refine hK.out _ _ ?_
          clear hK K
          refine done_ (by kernel_rfl) ?_
          clear hs0 hs1 hs2 hs3 hs4 k0 hw0 hw1 hw2 hi2
          go_wp2_with fail
          have hfin : Pile p w (w2.setCells g m [.slice A9 y.length c9]) (.slice (some ⟨g, 0, none⟩) (m + 1) c) (st.set m y) := HP2.out.put (w0 := w1.drew) m (by omega) HV.out HLT.out HQ.out.low
          have HF := Aside0.mk hfin
          have HZ : (st.set m y).length = st.length := List.length_set
          have HZ := Aside0.mk HZ
          clear hfin
          go_roundw
          case rel => exact ⟨i + 1, st.set m y, by go_num, by omega, HN, ⟨by have := HS.out; have := HZ.out; omega⟩, HF⟩
          case measure => simp [intOf]; omega
        · rw [if_neg hpos] at hp; cases hp
      · rw [if_neg k4] at hp
        have e4 : (s.f0 == 4) = false := beq_eq_false_iff_ne.mpr k4
        clear k3 k4
        cases hx : leaf s with
        | none => rw [hx] at hp; cases hp
        | some x =>
        rw [hx] at hp
        obtain rfl := Option.some.inj hp
        have HX := Aside0.mk hx
        clear hx hp
        go_wp2_with fail
        refine (H1.out _ HQ.out.bl _ _ HX.out).mono ?_
        rintro e w2 ⟨v, rfl, hv, hb2⟩
        obtain ⟨A9, c9, rfl⟩ := Kd.R_slice hv
        have HV := Aside0.mk hv
        have HP2 := Aside0.mk (HQ.out.below hb2)
        have HLW := Aside0.mk HQ.out.low
        have HOB := Aside0.mk (Kd.R_lt HQ.out.row)
        clear hb2 hw0 hw1 hw2 HQ hv
        have HL := Aside0.mk HP2.out.low
        go_wp2_with ((with_reducible refine gate_builtin (b := .append) (xs := #[.tmp 20, .tmp 25]) rfl ?_); at_builtin; refine Kd.R_append kE (w0 := w2) (w.heap.size + 1) rfl (.tmp 20) (.tmp 25) 168 22 (.slice none 0 0) 24 rfl Try.underlying168 infoE rfl (by decide) (by omega) (.slice A st.length c) st x [_] (fun _ => True) (fun k => True ∧ some k ≠ (Value.slice A st.length c).ownBlock) rfl rfl (fresh HV.out HOB.out HLW.out) (fun _ hk => hk) (fun _ _ => trivial) HP2.out.row (Below.refl _ _) HL.out (by have := HS.out; omega) ?_; intro v5 w5 ho5 hb5 hg5 hat5)
        have HP5 := Aside0.mk (HP2.out.grown ho5 hg5)
        clear ho5 hb5 hg5 hat5 HP2 HP
        go_roundw
        case rel => exact ⟨i + 1, st ++ [x], by go_num, by omega, HN, ⟨by have := HS.out; simp; omega⟩, HP5⟩
        case measure => simp [intOf]; omega
  · have hx : i = l.length := by omega
    subst hx
    have h := HR'.out
    rw [List.drop_length] at h
    simp only [run] at h
    have hpos : 0 < st.length := by
     cases st with
     | nil => cases h
     | cons a b => simp
    obtain ⟨g, cap, hv, hg1, hg2, _⟩ := Kd.R_form HP.out.row hpos
    injection hv with ha _ hcap
    subst ha hcap
    have hst : st.getD 0 [] = r := by
     cases st with
     | nil => cases h
     | cons a b => exact Option.some.inj h
    obtain ⟨v, k0, hv⟩ := HP.out.own 0 hpos
    rw [hst] at hv
    obtain ⟨A9, c9, rfl⟩ := Kd.R_slice hv
    have HV := Aside0.mk hv
    have q0 : (0 < (st.length : Int)) = True := eq_true (by omega)
    clear hv h HR' hst
    go_wp2_with fail
    go_ret
    exact ⟨_, rfl, Kd.R_lower HV.out (by omega), HP.out.bl⟩
end Go.Proofs.Ytcbkihhpnndpkaa.HFoldSigns
