/- way[text].folded: contract, out of the three functions that it is handed. -/
import Derived.Test.YtcbkihhpnndpkaaQ1
import Derived.Deep.CutBlock
import Derived.Deep.DeepCutAuto
import Derived.Deep.RegionHeld3
import Derived.IntWalk
import Derived.Outline
set_option linter.unusedVariables false
set_option linter.unusedSimpArgs false
namespace Go.Proofs.Ytcbkihhpnndpkaa.HFoldText
open Go.RowKit Go.Proofs.YtcbkihhpnndpkaaW.PrintWords Go.Proofs.YtcbkihhpnndpkaaW.PrintLast Go.Proofs.YtcbkihhpnndpkaaW.PrintMore
open Go.Proofs.Ytcbkihhpnndpkaa Go.Proofs.Ytcbkihhpnndpkaa.PA

/-- A text, and a mark. -/
abbrev P2 := ByteArray × Bool
def kP : Kd P2 := Kd.pair Kd.string Kd.bool
set_option maxRecDepth 100000 in
theorem sizeP : (Try.prog.info? 116).map (·.size) = some 2 := by kernel_rfl
theorem szP : kP.sz = 2 := rfl
theorem kP_mkM (w : World) (base : Nat) (ok : Nat → Prop) (x : P2) : kP.M w base ok x [.string x.1, .bool x.2] := ⟨[.string x.1], [.bool x.2], rfl, rfl, rfl⟩
theorem kP_openM {w : World} {base : Nat} {ok : Nat → Prop} {x : P2} {cs : List Value} (h : kP.M w base ok x cs) : cs = [.string x.1, .bool x.2] := by
 obtain ⟨_, _, rfl, rfl, rfl⟩ := h
 rfl
abbrev vP (x : P2) : Value := .agg #[.string x.1, .bool x.2]
theorem infoP : (Try.prog.info? 116).map (fun i => (i.zero, i.size, i.bytes)) = some (some (.agg #[(.string ⟨#[]⟩), (.bool false)]), 2, 24) := by kernel_rfl

/-- A sign onto the pile. -/
def put (leaf : S97 → Option P2) (times : P2 → P2 → Option P2) (omega : P2 → Option P2) (st : List P2) (s : S97) : Option (List P2) :=
 if s.f0 = 3 then (if 2 ≤ st.length then (times (st.getD (st.length - 2) (⟨#[]⟩, false)) (st.getD (st.length - 1) (⟨#[]⟩, false))).map (fun x => st.take (st.length - 2) ++ [x]) else none)
 else if s.f0 = 4 then (if 1 ≤ st.length then (omega (st.getD (st.length - 1) (⟨#[]⟩, false))).map (fun x => st.set (st.length - 1) x) else none)
 else (leaf s).map (fun x => st ++ [x])
def run (leaf : S97 → Option P2) (times : P2 → P2 → Option P2) (omega : P2 → Option P2) : List S97 → List P2 → Option P2
 | [], st => st.head?
 | s :: l, st => (put leaf times omega st s).bind (run leaf times omega l)

/-- The function f, with what it captured, does g to a value. -/
def Leaf (pa : Addr) (w : World) (g : S97 → Option P2) : Prop := ∀ w', Below w.heap.size w w' → ∀ s r, g s = some r →
 Calls Try.prog 63 #[.agg #[.int .i64 s.f0, .int .u8 s.f1], .pointer (some pa)] w' fun e w'' => e = .returned (vP r) ∧ Below w'.heap.size w' w''
def Omega (pb : Addr) (w : World) (g : P2 → Option P2) : Prop := ∀ w', Below w.heap.size w w' → ∀ s r, g s = some r →
 Calls Try.prog 65 #[vP s, .pointer (some pb)] w' fun e w'' => e = .returned (vP r) ∧ Below w'.heap.size w' w''
def Times (w : World) (g : P2 → P2 → Option P2) : Prop := ∀ w', Below w.heap.size w w' → ∀ s t r, g s t = some r →
 Calls Try.prog 64 #[vP s, vP t] w' fun e w'' => e = .returned (vP r) ∧ Below w'.heap.size w' w''

/-- The pile, between two signs. -/
structure Pile (pa pb : Addr) (w W : World) (v : Value) (st : List P2) : Prop where
 bl : Below w.heap.size w W
 way : W.heap[w.heap.size]? = some (.cells #[.func (.func 63) #[] #[.pointer (some pa)], .func (.func 64) #[] #[], .func (.func 65) #[] #[.pointer (some pb)]] 122 (0, 0))
 res : W.heap[w.heap.size + 1]? = some (.cells #[.string ⟨#[]⟩, .bool false] 116 (0, 0))
 row : Kd.R kP 116 W (w.heap.size + 2) (fun _ => True) v st
theorem Pile.low {pa pb : Addr} {w W : World} {v : Value} {st : List P2} (h : Pile pa pb w W v st) : w.heap.size + 2 ≤ W.heap.size := by
 have := blk_lt h.res
 omega
theorem Pile.below {pa pb : Addr} {w W W' : World} {v : Value} {st : List P2} (h : Pile pa pb w W v st) (hb : Below W.heap.size W W') : Pile pa pb w W' v st :=
 ⟨below_then h.bl h.bl.size hb, blk_below h.way hb, blk_below h.res hb, Kd.R_below h.row hb⟩
theorem Pile.grown {pa pb : Addr} {w W W' : World} {v v' : Value} {st st' : List P2} (h : Pile pa pb w W v st) (hr : Kd.R kP 116 W' (w.heap.size + 2) (fun _ => True) v' st') (hg : W.grownBy W' v.ownBlock) : Pile pa pb w W' v' st' := by
 have hb := Kd.R_base h.row
 exact ⟨Below.grown h.bl hg h.bl.size (fun k hk => by have := hb k hk; omega), (hg.block _ (by have := h.low; omega) (fun e => by have := hb _ e.symm; omega)).trans h.way, (hg.block _ (by have := h.low; omega) (fun e => by have := hb _ e.symm; omega)).trans h.res, hr⟩

theorem Pile.at {pa pb : Addr} {w W : World} {g n c : Nat} {st : List P2} (h : Pile pa pb w W (.slice (some ⟨g, 0, none⟩) n c) st) (m : Nat) (hm : m < n) : W.cell? ⟨g, m * 2, none⟩ = some (.string (st.getD m (⟨#[]⟩, false)).1) ∧ W.cell? ⟨g, m * 2 + 1, none⟩ = some (.bool (st.getD m (⟨#[]⟩, false)).2) := by
 obtain ⟨cs, _, hM, hcc⟩ := Kd.R_getA h.row (⟨#[]⟩, false) (m : Int) (by omega) (by omega)
 rw [Int.toNat_natCast] at hM hcc
 obtain rfl := kP_openM hM
 have k0 := hcc 0 _ rfl
 have k1 := hcc 1 _ rfl
 rw [add_at, Nat.zero_add, szP, Nat.add_zero] at k0
 rw [add_at, Nat.zero_add, szP] at k1
 exact ⟨k0, k1⟩
theorem Pile.put {pa pb : Addr} {w W : World} {g n c : Nat} {st : List P2} (h : Pile pa pb w W (.slice (some ⟨g, 0, none⟩) n c) st) (m : Nat) (hm : m < n) (y : P2) : Pile pa pb w (W.setCells g (m * 2) [.string y.1, .bool y.2]) (.slice (some ⟨g, 0, none⟩) n c) (st.set m y) := by
 obtain ⟨cs, hcl, hM, hcc⟩ := Kd.R_getA h.row (⟨#[]⟩, false) (m : Int) (by omega) (by omega)
 obtain rfl := kP_openM hM
 obtain ⟨hr, hg⟩ := Kd.R_seg (j := 0) (seg := [.string y.1, .bool y.2]) (x' := y) h.row (m : Int) (by omega) (by omega) hcl (fun j u hu => by have q := hcc j u hu; rw [add_at, Nat.zero_add] at q; exact q) (by simp [szP]) (okp := fun _ => False) (by simpa using kP_mkM _ _ _ y) (fun _ hk => hk.elim)
 rw [Int.toNat_natCast, szP, Nat.add_zero] at hr hg
 exact h.grown hr hg
set_option maxRecDepth 100000 in
theorem Pile.store {pa pb : Addr} {w W : World} {g n c : Nat} {st : List P2} (h : Pile pa pb w W (.slice (some ⟨g, 0, none⟩) n c) st) (m : Nat) (hm : m < n) (y : P2) : (Instr.storeAt 116 (.pointer (some ⟨g, m * 2, none⟩)) (vP y)).run Try.prog W = .ok () (W.setCells g (m * 2) [.string y.1, .bool y.2]) := by
 have hn := (Kd.R_reads' h.row).1
 obtain ⟨_, inner, ho, hr⟩ := h.row
 rcases ho.2 with ⟨hv, _⟩ | ⟨g', cap', cur, hv, hb, hh, hnc, hcm, hcs, _⟩
 · cases hv
 · injection hv with ha _ hc
   injection ha with ha
   injection ha with hg'
   subst hg'; subst hc
   have hs : cur.size = c * 2 := hcs
   refine run_store_run 116 (vP y) _ hh rfl sizeP ?_ (by intro q hq; simp at hq; rcases hq with rfl | rfl <;> rfl)
   simp
   omega
theorem Pile.way2 {pa pb : Addr} {w W : World} {v : Value} {st : List P2} (h : Pile pa pb w W v st) : W.cell? ⟨w.heap.size, 2, none⟩ = some (.func (.func 65) #[] #[.pointer (some pb)]) := (blk_cell h.way 2).trans rfl
theorem Pile.way1 {pa pb : Addr} {w W : World} {v : Value} {st : List P2} (h : Pile pa pb w W v st) : W.cell? ⟨w.heap.size, 1, none⟩ = some (.func (.func 64) #[] #[]) := (blk_cell h.way 1).trans rfl

set_option maxHeartbeats 400000 in
set_option maxRecDepth 100000 in
theorem calls (leaf : S97 → Option P2) (times : P2 → P2 → Option P2) (omega : P2 → Option P2) (pa pb : Addr) (w : World) (h1 : Leaf pa w leaf) (h2 : Times w times) (h3 : Omega pb w omega)
 (A0 : Option Addr) (c0 : Nat) (l : List S97) (hl : Kd.C k97 w A0 l.length l) (hc : l.length ≤ c0) (hn : l.length ≤ 400) (r : P2) (h : run leaf times omega l [] = some r) :
 Calls Try.prog 67 #[.agg #[.func (.func 63) #[] #[.pointer (some pa)], .func (.func 64) #[] #[], .func (.func 65) #[] #[.pointer (some pb)]], .slice A0 l.length c0] w fun e w' => e = .returned (vP r) ∧ Below w.heap.size w w' := by
 have H1 := Aside0.mk h1
 have H2 := Aside0.mk h2
 have H3 := Aside0.mk h3
 have HC := Aside0.mk hl
 have HR := Aside0.mk h
 clear h1 h2 h3 hl h
 go_enter Try.func67, Try.ntmps67
 go_wp2_with fail
 go_loopw [5, 12] (fun v5 v12 wr => ∃ (i : Nat) (st : List P2), v12 = .int .i64 i ∧ i ≤ l.length ∧ Aside0 (run leaf times omega (l.drop i) st = some r) ∧ Aside0 (st.length ≤ i) ∧ Aside0 (Pile pa pb w wr v5 st)) (fun _ v12 _ => l.length - (intOf v12).toNat)
 case atStart => exact ⟨0, [], rfl, Nat.zero_le _, HR, ⟨Nat.zero_le _⟩, ⟨below_alloc (below_alloc (Below.refl _ _) _) _, blk_alloc (blk_new w _) _, by have := blk_new (w.alloc (.cells #[.func (.func 63) #[] #[.pointer (some pa)], .func (.func 64) #[] #[], .func (.func 65) #[] #[.pointer (some pb)]] 122)) (.cells #[.string ⟨#[]⟩, .bool false] 116); simpa using this, Kd.R_nil _ _ _ _ _⟩⟩
 case round =>
  obtain ⟨i, st, rfl, hi, HR', HS, HP⟩ := hrel
  clear HR
  obtain ⟨A, c, rfl⟩ := Kd.R_slice HP.out.row
  by_cases hlt : i < l.length
  · obtain ⟨ad, he, hx0, hx1⟩ := at_T97 (Kd.C_below HC.out HP.out.bl) (i : Int) (by omega) (by omega)
    obtain rfl := he
    rw [Int.toNat_natCast] at hx0 hx1
    have hd : l.drop i = rd_T97 l i :: l.drop (i + 1) := by
     rw [List.drop_eq_getElem_cons hlt]
     simp [rd_T97, hlt]
    have h := HR'.out
    rw [hd] at h
    clear HR' hd
    simp only [run] at h
    cases hp : put leaf times omega st (rd_T97 l i) with
    | none => rw [hp] at h; cases h
    | some st' =>
    rw [hp] at h
    have HN := Aside0.mk (show run leaf times omega (l.drop (i + 1)) st' = some r from h)
    clear h
    unfold put at hp
    generalize rd_T97 l i = s at *
    have p1 : (0 ≤ (i : Int)) = True := eq_true (by omega)
    have q1 : ((i : Int) < (l.length : Int)) = True := eq_true (by omega)
    have HQ := HP.out.below (below_alloc (Below.refl _ _) (.cells #[.int .i64 s.f0, .int .u8 s.f1] 97))
    have hw0 : (wr.alloc (.cells #[.int .i64 s.f0, .int .u8 s.f1] 97)).cell? ⟨w.heap.size, 0, none⟩ = some (.func (.func 63) #[] #[.pointer (some pa)]) := (blk_cell HQ.way 0).trans rfl
    have hw1 : (wr.alloc (.cells #[.int .i64 s.f0, .int .u8 s.f1] 97)).cell? ⟨w.heap.size, 1, none⟩ = some (.func (.func 64) #[] #[]) := (blk_cell HQ.way 1).trans rfl
    have hw2 : (wr.alloc (.cells #[.int .i64 s.f0, .int .u8 s.f1] 97)).cell? ⟨w.heap.size, 2, none⟩ = some (.func (.func 65) #[] #[.pointer (some pb)]) := (blk_cell HQ.way 2).trans rfl
    have HQ := Aside0.mk HQ
    by_cases k3 : s.f0 = 3
    · rw [if_pos k3] at hp
      have e3 : (s.f0 == 3) = true := beq_iff_eq.mpr k3
      clear k3
      by_cases hpos : 2 ≤ st.length
      · rw [if_pos hpos] at hp
        obtain ⟨g, cap, hv, hg1, hg2, _⟩ := Kd.R_form HP.out.row (by omega)
        injection hv with ha _ hcap
        subst ha hcap
        obtain ⟨m, hm⟩ : ∃ m, st.length = m + 2 := ⟨st.length - 2, by omega⟩
        rw [hm] at hp HP HQ
        rw [show m + 2 - 2 = m from rfl, show m + 2 - 1 = m + 1 from rfl] at hp
        cases hx : times (st.getD m (⟨#[]⟩, false)) (st.getD (m + 1) (⟨#[]⟩, false)) with
        | none => rw [hx] at hp; cases hp
        | some y =>
        rw [hx] at hp
        obtain rfl := Option.some.inj hp
        have kk := HQ.out.at m (by omega)
        have kl := HQ.out.at (m + 1) (by omega)
        generalize hgx : st.getD m (⟨#[]⟩, false) = x at *
        generalize hgz : st.getD (m + 1) (⟨#[]⟩, false) = z at *
        obtain ⟨k0, k1⟩ := kk
        obtain ⟨k2, k3⟩ := kl
        have HG := Aside0.mk (And.intro hgx hgz)
        have HX := Aside0.mk hx
        have HM := Aside0.mk hm
        have HGW := Aside0.mk (show g < wr.heap.size from hg2)
        have hb : (m : Int) ≤ 400 := by have := HS.out; omega
        have hroom : m + 2 ≤ c := (Kd.R_reads' HQ.out.row).2.1
        obtain ⟨i0, hi0, _, hsz, _⟩ := info_parts infoP
        rw [hm]
        clear hx hp hm hpos hgx hgz
        go_upto_region 9 with fail
        generalize (wr.alloc (.cells #[.int .i64 s.f0, .int .u8 s.f1] 97)) = w1 at *
        have HLT := Aside0.mk (show g < w1.heap.size from Kd.R_lt HQ.out.row g rfl)
        have hs1 : IntKind.i64.wrap (m : Int) = (m : Int) := IntWalk.i64_in _ (by omega)
        have hs0 : IntKind.i64.wrap ((m : Int) + 2 - 2) = (m : Int) := by rw [show (m : Int) + 2 - 2 = m by omega]; exact hs1
        have hs2 : IntKind.i64.wrap ((m : Int) + 1) = (m : Int) + 1 := IntWalk.i64_in _ (by omega)
        have hs3 : IntKind.i64.wrap ((m : Int) + 2 - 1) = (m : Int) + 1 := by rw [show (m : Int) + 2 - 1 = m + 1 by omega]; exact hs2
        have hs4 : ((m : Int)).toNat = m := by omega
        have hs5 : ((m : Int) + 1).toNat = m + 1 := by omega
        have hs6 : (0 : Int) ≤ (m : Int) := by omega
        have hs7 : (m : Int) < (m : Int) + 2 := by omega
        have hs8 : (0 : Int) ≤ (m : Int) + 1 := by omega
        have hs9 : (m : Int) + 1 < (m : Int) + 2 := by omega
        go_cut [9] (fun v9 wd => ∃ b : Nat, v9 = .pointer (some ⟨b, 0, none⟩) ∧ Aside0 (wd.heap[b]? = some (.cells #[.string y.1, .bool y.2] 116 (0, 0))) ∧ Aside0 (g < b) ∧ Aside0 (Pile pa pb w wd (.slice (some ⟨g, 0, none⟩) (m + 2) c) st))
        case first =>
         refine start_ (n := 15) (S := fun w' => w'.cell? ⟨w.heap.size, 1, none⟩ = some (.func (.func 64) #[] #[]) ∧ w'.cell? ⟨g, m * 2, none⟩ = some (.string x.1) ∧ w'.cell? ⟨g, m * 2 + 1, none⟩ = some (.bool x.2) ∧ w'.cell? ⟨g, (m + 1) * 2, none⟩ = some (.string z.1) ∧ w'.cell? ⟨g, (m + 1) * 2 + 1, none⟩ = some (.bool z.2)) (ds := [14]) #[false, false, false, false, false, false, false, false, false, false, false, false, false, false, false] (by kernel_rfl) rfl rfl ⟨hw1, k0, k1, k2, k3⟩ (fun hHeld => ?_)
         refine pure_ (i := 0) (N := (some 29)) (v := ?_) (a' := ?_) #[true, false, false, false, false, false, false, false, false, false, false, false, false, false, false] rfl rfl (by kernel_rfl) (fun _ _ _ h => h) (Or.inl ⟨by rfl, ?_⟩) ?_ ?_
         rotate_left
         · intro w'
           go_simp
           with_reducible rfl
         rotate_left
         · simp only [Act.put, sA_, sZ_, sS_, i64_w, i32_w]
           rfl
         refine pure_ (i := 2) (N := (some 31)) (v := ?_) (a' := ?_) #[true, false, true, false, false, false, false, false, false, false, false, false, false, false, false] rfl rfl (by kernel_rfl) (fun _ _ _ h => h) (Or.inl ⟨by rfl, ?_⟩) ?_ ?_
         rotate_left
         · intro w'
           go_simp
           with_reducible rfl
         rotate_left
         · simp only [Act.put, sA_, sZ_, sS_, i64_w, i32_w]
           rfl
         refine pure_ (i := 3) (N := (some 32)) (v := ?_) (a' := ?_) #[true, false, true, true, false, false, false, false, false, false, false, false, false, false, false] rfl rfl (by kernel_rfl) (fun _ _ _ h => h) (Or.inl ⟨by rfl, ?_⟩) ?_ ?_
         rotate_left
         · intro w'
           go_simp
           with_reducible rfl
         rotate_left
         · simp only [Act.put, sA_, sZ_, sS_, i64_w, i32_w]
           rfl
         refine pure_ (i := 4) (N := (some 33)) (v := ?_) (a' := ?_) #[true, false, true, true, true, false, false, false, false, false, false, false, false, false, false] rfl rfl (by kernel_rfl) (fun _ _ _ h => h) (Or.inl ⟨by rfl, ?_⟩) ?_ ?_
         rotate_left
         · intro w'
           go_simp
           with_reducible rfl
         rotate_left
         · simp only [Act.put, sA_, sZ_, sS_, i64_w, i32_w]
           rfl
         refine pure_ (i := 5) (N := (some 34)) (v := ?_) (a' := ?_) #[true, false, true, true, true, true, false, false, false, false, false, false, false, false, false] rfl rfl (by kernel_rfl) (fun _ _ _ h => h) (Or.inl ⟨by rfl, ?_⟩) ?_ ?_
         rotate_left
         · intro w'
           go_simp
           with_reducible rfl
         rotate_left
         · simp only [Act.put, sA_, sZ_, sS_, i64_w, i32_w]
           rfl
         refine pure_ (i := 7) (N := (some 36)) (v := ?_) (a' := ?_) #[true, false, true, true, true, true, false, true, false, false, false, false, false, false, false] rfl rfl (by kernel_rfl) (fun _ _ _ h => h) (Or.inl ⟨by rfl, ?_⟩) ?_ ?_
         rotate_left
         · intro w'
           go_simp
           with_reducible rfl
         rotate_left
         · simp only [Act.put, sA_, sZ_, sS_, i64_w, i32_w]
           rfl
         refine pure_ (i := 8) (N := (some 37)) (v := ?_) (a' := ?_) #[true, false, true, true, true, true, false, true, true, false, false, false, false, false, false] rfl rfl (by kernel_rfl) (fun _ _ _ h => h) (Or.inl ⟨by rfl, ?_⟩) ?_ ?_
         rotate_left
         · intro w'
           go_simp
           with_reducible rfl
         rotate_left
         · simp only [Act.put, sA_, sZ_, sS_, i64_w, i32_w]
           rfl
         refine pure_ (i := 9) (N := (some 38)) (v := ?_) (a' := ?_) #[true, false, true, true, true, true, false, true, true, true, false, false, false, false, false] rfl rfl (by kernel_rfl) (fun _ _ _ h => h) (Or.inl ⟨by rfl, ?_⟩) ?_ ?_
         rotate_left
         · intro w'
           go_simp
           with_reducible rfl
         rotate_left
         · simp only [Act.put, sA_, sZ_, sS_, i64_w, i32_w]
           rfl
         refine pure_ (i := 10) (N := (some 39)) (v := ?_) (a' := ?_) #[true, false, true, true, true, true, false, true, true, true, true, false, false, false, false] rfl rfl (by kernel_rfl) (fun _ _ _ h => h) (Or.inl ⟨by rfl, ?_⟩) ?_ ?_
         rotate_left
         · intro w'
           go_simp
           with_reducible rfl
         rotate_left
         · simp only [Act.put, sA_, sZ_, sS_, i64_w, i32_w]
           rfl
         refine take_ (i := 1) (N := (some 30)) (v := ?_) (a' := ?_) #[true, true, true, true, true, true, false, true, true, true, true, false, false, false, false] rfl rfl (by kernel_rfl) (fun _ _ _ h => h) (Or.inl ⟨by rfl, ?_⟩) hHeld ?_ ?_
         rotate_left
         · rintro w' ⟨s0, s1, s2, s3, s4⟩
           go_simp
           with_reducible rfl
         rotate_left
         · simp only [Act.put, sA_, sZ_, sS_, i64_w, i32_w]
           rfl
         refine take_ (i := 6) (N := (some 35)) (v := ?_) (a' := ?_) #[true, true, true, true, true, true, true, true, true, true, true, false, false, false, false] rfl rfl (by kernel_rfl) (fun _ _ _ h => h) (Or.inl ⟨by rfl, ?_⟩) hHeld ?_ ?_
         rotate_left
         · rintro w' ⟨s0, s1, s2, s3, s4⟩
           go_simp
           with_reducible rfl
         rotate_left
         · simp only [Act.put, sA_, sZ_, sS_, i64_w, i32_w]
           rfl
         refine take_ (i := 11) (N := (some 40)) (v := ?_) (a' := ?_) #[true, true, true, true, true, true, true, true, true, true, true, true, false, false, false] rfl rfl (by kernel_rfl) (fun _ _ _ h => h) (Or.inl ⟨by rfl, ?_⟩) hHeld ?_ ?_
         rotate_left
         · rintro w' ⟨s0, s1, s2, s3, s4⟩
           go_simp
           with_reducible rfl
         rotate_left
         · simp only [Act.put, sA_, sZ_, sS_, i64_w, i32_w]
           rfl
         refine two_ (i := 12) (j := 13) (Ni := (some 41)) (Nj := (some 9)) #[true, true, true, true, true, true, true, true, true, true, true, true, true, false, false] #[true, true, true, true, true, true, true, true, true, true, true, true, false, true, false] rfl rfl rfl rfl (by kernel_rfl) (by decide) (by decide) (fun K hK => ?_) (fun K hK => ?_)
         · have HQ1 := Aside0.mk (HQ.out.below (below_drew (Below.refl _ _)))
           refine call_ 64 #[vP x, vP z] (by rfl) rfl (by go_simp) ?_
           refine (H2.out _ HQ1.out.bl _ _ _ HX.out).mono ?_
           rintro e w2 ⟨rfl, hb2⟩
           refine ⟨_, rfl, ?_⟩
           have HP2 := Aside0.mk (HQ1.out.below hb2)
           have HB2 := Aside0.mk hb2
           clear hb2
           refine hK.out _ _ (⟨HP2.out.way1, by have q := HP2.out.at (n := m + 2) m (by omega); rw [HG.out.1] at q; exact q.1, by have q := HP2.out.at (n := m + 2) m (by omega); rw [HG.out.1] at q; exact q.2, by have q := HP2.out.at (n := m + 2) (m + 1) (by omega); rw [HG.out.2] at q; exact q.1, by have q := HP2.out.at (n := m + 2) (m + 1) (by omega); rw [HG.out.2] at q; exact q.2⟩) (fun hHeld => ?_)
           clear hK K
           refine norm_ (a' := ?_) ?_ ?_
           rotate_left
           · show Act.put _ (some 41) _ = _
             simp only [Act.put, sA_, sZ_, sS_, i64_w, i32_w]
             rfl
           refine one_ (i := 13) (N := (some 9)) #[true, true, true, true, true, true, true, true, true, true, true, true, true, true, false] rfl rfl (by kernel_rfl) (by decide) (fun K hK => ?_)
           refine value_ (v := .pointer (some ⟨w2.heap.size, 0, none⟩)) (w1 := w2.alloc (.cells #[.string ⟨#[]⟩, .bool false] 116)) (by rfl) rfl (by go_simp) ?_
           have HP3 := Aside0.mk (HP2.out.below (below_alloc (Below.refl _ _) (.cells #[.string ⟨#[]⟩, .bool false] 116)))
           refine hK.out _ _ (⟨HP3.out.way1, by have q := HP3.out.at (n := m + 2) m (by omega); rw [HG.out.1] at q; exact q.1, by have q := HP3.out.at (n := m + 2) m (by omega); rw [HG.out.1] at q; exact q.2, by have q := HP3.out.at (n := m + 2) (m + 1) (by omega); rw [HG.out.2] at q; exact q.1, by have q := HP3.out.at (n := m + 2) (m + 1) (by omega); rw [HG.out.2] at q; exact q.2⟩) (fun hHeld => ?_)
           clear hK K
           refine norm_ (a' := ?_) ?_ ?_
           rotate_left
           · show Act.put _ (some 9) _ = _
             simp only [Act.put, sA_, sZ_, sS_, i64_w, i32_w]
             rfl
           refine last_ (i := 14) (N := none) #[true, true, true, true, true, true, true, true, true, true, true, true, true, true, true] rfl rfl (by kernel_rfl) (by decide) (fun K hK => ?_)
           have hh : (w2.alloc (.cells #[.string ⟨#[]⟩, .bool false] 116)).heap[w2.heap.size]? = some (.cells #[.string ⟨#[]⟩, .bool false] 116 (0, 0)) := blk_new w2 (.cells #[.string ⟨#[]⟩, .bool false] 116)
           refine skip_ (w1 := (w2.alloc (.cells #[.string ⟨#[]⟩, .bool false] 116)).setCells (w2.heap.size) 0 [.string y.1, .bool y.2]) (by rfl) rfl ?_ ?_
           · have hrun := run_store_run (P := Try.prog) (o := 0) 116 (vP y) [.string y.1, .bool y.2] hh rfl sizeP (by simp) (by intro q hq; simp at hq; rcases hq with rfl | rfl <;> rfl)
             simp [execOp, Act.eval, hrun]
           refine hK.out _ _ ?_
           clear hK K
           refine done_ (by kernel_rfl) ?_
           go_wp2_with fail
           go_meet
           exact ⟨w2.heap.size, rfl, ⟨blk_put (cs := #[.string y.1, .bool false]) (blk_put (cs := #[.string ⟨#[]⟩, .bool false]) hh 0 _ rfl) 1 _ rfl⟩, ⟨Kd.R_lt HP2.out.row g rfl⟩, ⟨HP2.out.below (below_set (below_set (below_alloc (Below.refl _ _) (.cells #[.string ⟨#[]⟩, .bool false] 116)) (Nat.le_refl _)) (Nat.le_refl _))⟩⟩
         · refine value_ (v := .pointer (some ⟨w1.heap.size, 0, none⟩)) (w1 := w1.drew.alloc (.cells #[.string ⟨#[]⟩, .bool false] 116)) (by rfl) rfl (by go_simp) ?_
           have HQ1 := Aside0.mk (HQ.out.below (below_alloc (below_drew (Below.refl _ _)) (.cells #[.string ⟨#[]⟩, .bool false] 116)))
           refine hK.out _ _ (⟨HQ1.out.way1, by have q := HQ1.out.at (n := m + 2) m (by omega); rw [HG.out.1] at q; exact q.1, by have q := HQ1.out.at (n := m + 2) m (by omega); rw [HG.out.1] at q; exact q.2, by have q := HQ1.out.at (n := m + 2) (m + 1) (by omega); rw [HG.out.2] at q; exact q.1, by have q := HQ1.out.at (n := m + 2) (m + 1) (by omega); rw [HG.out.2] at q; exact q.2⟩) (fun hHeld => ?_)
           clear hK K
           refine norm_ (a' := ?_) ?_ ?_
           rotate_left
           · show Act.put _ (some 9) _ = _
             simp only [Act.put, sA_, sZ_, sS_, i64_w, i32_w]
             rfl
           refine one_ (i := 12) (N := (some 41)) #[true, true, true, true, true, true, true, true, true, true, true, true, true, true, false] rfl rfl (by kernel_rfl) (by decide) (fun K hK => ?_)
           refine call_ 64 #[vP x, vP z] (by rfl) rfl (by go_simp) ?_
           refine (H2.out _ HQ1.out.bl _ _ _ HX.out).mono ?_
           rintro e w2 ⟨rfl, hb2⟩
           refine ⟨_, rfl, ?_⟩
           have HP2 := Aside0.mk (HQ1.out.below hb2)
           have HB2 := Aside0.mk hb2
           clear hb2
           refine hK.out _ _ (⟨HP2.out.way1, by have q := HP2.out.at (n := m + 2) m (by omega); rw [HG.out.1] at q; exact q.1, by have q := HP2.out.at (n := m + 2) m (by omega); rw [HG.out.1] at q; exact q.2, by have q := HP2.out.at (n := m + 2) (m + 1) (by omega); rw [HG.out.2] at q; exact q.1, by have q := HP2.out.at (n := m + 2) (m + 1) (by omega); rw [HG.out.2] at q; exact q.2⟩) (fun hHeld => ?_)
           clear hK K
           refine norm_ (a' := ?_) ?_ ?_
           rotate_left
           · show Act.put _ (some 41) _ = _
             simp only [Act.put, sA_, sZ_, sS_, i64_w, i32_w]
             rfl
           refine last_ (i := 14) (N := none) #[true, true, true, true, true, true, true, true, true, true, true, true, true, true, true] rfl rfl (by kernel_rfl) (by decide) (fun K hK => ?_)
           have hh : w2.heap[w1.heap.size]? = some (.cells #[.string ⟨#[]⟩, .bool false] 116 (0, 0)) := blk_below (blk_new w1.drew (.cells #[.string ⟨#[]⟩, .bool false] 116)) HB2.out
           refine skip_ (w1 := w2.setCells (w1.heap.size) 0 [.string y.1, .bool y.2]) (by rfl) rfl ?_ ?_
           · have hrun := run_store_run (P := Try.prog) (o := 0) 116 (vP y) [.string y.1, .bool y.2] hh rfl sizeP (by simp) (by intro q hq; simp at hq; rcases hq with rfl | rfl <;> rfl)
             simp [execOp, Act.eval, hrun]
           refine hK.out _ _ ?_
           clear hK K
           refine done_ (by kernel_rfl) ?_
           go_wp2_with fail
           go_meet
           exact ⟨w1.heap.size, rfl, ⟨blk_put (cs := #[.string y.1, .bool false]) (blk_put (cs := #[.string ⟨#[]⟩, .bool false]) hh 0 _ rfl) 1 _ rfl⟩, ⟨HLT.out⟩, ⟨HQ.out.below (below_set (below_set (below_then (below_alloc (below_drew (Below.refl _ _)) (.cells #[.string ⟨#[]⟩, .bool false] 116)) (by simp) HB2.out) (Nat.le_refl _)) (Nat.le_refl _))⟩⟩
        case rest =>
         clear hw0 hw1 hw2 k0 k1 k2 k3 HP HQ HX
         obtain ⟨b, rfl, HBX, HGB, HP3⟩ := hcut
         have r0 : wc.cell? ⟨b, 0, none⟩ = some (.string y.1) := (blk_cell HBX.out 0).trans rfl
         have r1 : wc.cell? ⟨b, 1, none⟩ = some (.bool y.2) := (blk_cell HBX.out 1).trans rfl
         have hcut2 := cut_to (P := Try.prog) 187 116 .i64 Try.underlying187 hi0 (some ⟨g, 0, none⟩) (m + 2) c (m : Int) (by omega) (by omega) hroom
         rw [Int.toNat_natCast] at hcut2
         have HT : Pile pa pb w wc.drew (.slice (some ⟨g, 0, none⟩) m c) (st.take m) := by
          have q := HP3.out.below (below_drew (Below.refl _ _))
          exact ⟨q.bl, q.way, q.res, Kd.R_take q.row (by have := HM.out; omega)⟩
         have HT := Aside0.mk HT
         have HL := Aside0.mk HP3.out.low
         go_upto_region 10 with fail
         refine start_ (n := 8) (S := fun w' => w'.cell? ⟨b, 0, none⟩ = some (.string y.1) ∧ w'.cell? ⟨b, 1, none⟩ = some (.bool y.2)) (ds := [6]) #[false, false, false, false, false, false, false, false] (by kernel_rfl) rfl rfl ⟨r0, r1⟩ (fun hHeld => ?_)
         refine pure_ (i := 0) (N := (some 42)) (v := ?_) (a' := ?_) #[true, false, false, false, false, false, false, false] rfl rfl (by kernel_rfl) (fun _ _ _ h => h) (Or.inl ⟨by rfl, ?_⟩) ?_ ?_
         rotate_left
         · intro w'
           go_simp
           with_reducible rfl
         rotate_left
         · simp only [Act.put, sA_, sZ_, sS_, i64_w, i32_w]
           rfl
         refine pure_ (i := 1) (N := (some 43)) (v := ?_) (a' := ?_) #[true, true, false, false, false, false, false, false] rfl rfl (by kernel_rfl) (fun _ _ _ h => h) (Or.inl ⟨by rfl, ?_⟩) ?_ ?_
         rotate_left
         · intro w'
           go_simp
           with_reducible rfl
         rotate_left
         · simp only [Act.put, sA_, sZ_, sS_, i64_w, i32_w]
           rfl
         refine pure_ (i := 2) (N := (some 44)) (v := ?_) (a' := ?_) #[true, true, true, false, false, false, false, false] rfl rfl (by kernel_rfl) (fun _ _ _ h => h) (Or.inl ⟨by rfl, ?_⟩) ?_ ?_
         rotate_left
         · intro w'
           go_simp
           with_reducible rfl
         rotate_left
         · simp only [Act.put, sA_, sZ_, sS_, i64_w, i32_w]
           rfl
         refine pure_ (i := 3) (N := (some 45)) (v := ?_) (a' := ?_) #[true, true, true, true, false, false, false, false] rfl rfl (by kernel_rfl) (fun _ _ _ h => h) (Or.inl ⟨by rfl, ?_⟩) ?_ ?_
         rotate_left
         · intro w'
           go_simp
           with_reducible rfl
         rotate_left
         · simp only [Act.put, sA_, sZ_, sS_, i64_w, i32_w]
           rfl
         refine take_ (i := 4) (N := (some 46)) (v := ?_) (a' := ?_) #[true, true, true, true, true, false, false, false] rfl rfl (by kernel_rfl) (fun _ _ _ h => h) (Or.inl ⟨by rfl, ?_⟩) hHeld ?_ ?_
         rotate_left
         · rintro w' ⟨s0, s1⟩
           go_simp
           with_reducible rfl
         rotate_left
         · simp only [Act.put, sA_, sZ_, sS_, i64_w, i32_w]
           rfl
         refine one_ (i := 5) (N := (some 47)) #[true, true, true, true, true, true, false, false] rfl rfl (by kernel_rfl) (by decide) (fun K hK => ?_)
         refine value_ (v := .slice (some ⟨wc.drew.heap.size, 0, none⟩) 1 1) (w1 := wc.drew.alloc (.cells #[.string y.1, .bool y.2] 116)) (by rfl) rfl (by go_simp) ?_
         refine hK.out _ _ (⟨(blk_cell (blk_alloc HBX.out _) 0).trans rfl, (blk_cell (blk_alloc HBX.out _) 1).trans rfl⟩) (fun hHeld => ?_)
         clear hK K
         refine norm_ (a' := ?_) ?_ ?_
         rotate_left
         · show Act.put _ (some 47) _ = _
           simp only [Act.put, sA_, sZ_, sS_, i64_w, i32_w]
           rfl
         refine last_ (i := 6) (N := (some 48)) #[true, true, true, true, true, true, true, false] rfl rfl (by kernel_rfl) (by decide) (fun K hK => ?_)
         refine Kd.R_append_step kP (w0 := wc.drew) (w.heap.size + 2) (by rfl) (.tmp 45) (.tmp 47) 187 116 (.agg #[(.string ⟨#[]⟩), (.bool false)]) 24 rfl Try.underlying187 infoP rfl (by decide) (by omega) (.slice (some ⟨g, 0, none⟩) m c) (st.take m) y [.string y.1, .bool y.2] (fun _ => True) (fun _ => False) rfl rfl (kP_mkM _ _ _ _) (fun _ hk => hk.elim) (fun _ _ => trivial) HT.out.row (Below.refl _ _) HL.out (by rw [List.length_take]; omega) ?_
         intro v5 w5 ho5 hb5 hg5 hat5
         refine hK.out _ _ ?_
         clear hK K
         refine norm_ (a' := ?_) ?_ ?_
         rotate_left
         · show Act.put _ (some 48) _ = _
           simp only [Act.put, sA_, sZ_, sS_, i64_w, i32_w]
           rfl
         refine pure_ (i := 7) (N := (some 5)) (v := ?_) (a' := ?_) #[true, true, true, true, true, true, true, true] rfl rfl (by kernel_rfl) (fun _ _ _ h => h) (Or.inl ⟨by rfl, ?_⟩) ?_ ?_
         rotate_left
         · intro w'
           go_simp
           with_reducible rfl
         rotate_left
         · simp only [Act.put, sA_, sZ_, sS_, i64_w, i32_w]
           rfl
         refine done_ (by kernel_rfl) ?_
         clear hs0 hs1 hs2 hs3 hs4 hs5 hs6 hs7 hs8 hs9 r0 r1 hcut2
         go_wp2_with fail
         have HF := Aside0.mk (HT.out.grown ho5 hg5)
         have HZ : (st.take m ++ [y]).length = m + 1 := by rw [List.length_append, List.length_take]; have := HM.out; simp; omega
         have HZ := Aside0.mk HZ
         clear ho5 hb5 hg5 hat5
         go_roundw
         case rel => exact ⟨i + 1, st.take m ++ [y], by go_num, by omega, HN, ⟨by have := HS.out; have := HZ.out; have := HM.out; omega⟩, HF⟩
         case measure => simp [intOf]; omega
      · rw [if_neg hpos] at hp; cases hp
    · rw [if_neg k3] at hp
      have e3 : (s.f0 == 3) = false := beq_eq_false_iff_ne.mpr k3
      by_cases k4 : s.f0 = 4
      · rw [if_pos k4] at hp
        have e4 : (s.f0 == 4) = true := beq_iff_eq.mpr k4
        clear k3 k4
        by_cases hpos : 1 ≤ st.length
        · rw [if_pos hpos] at hp
          obtain ⟨g, cap, hv, hg1, hg2, _⟩ := Kd.R_form HP.out.row hpos
          injection hv with ha _ hcap
          subst ha hcap
          obtain ⟨m, hm⟩ : ∃ m, st.length = m + 1 := ⟨st.length - 1, by omega⟩
          rw [hm] at hp HP HQ
          cases hx : omega (st.getD (m + 1 - 1) (⟨#[]⟩, false)) with
          | none => rw [hx] at hp; cases hp
          | some y =>
          rw [hx] at hp
          obtain rfl := Option.some.inj hp
          rw [show m + 1 - 1 = m from rfl] at hx
          have kk := HQ.out.at m (by omega)
          generalize hgx : st.getD m (⟨#[]⟩, false) = x at *
          obtain ⟨k0, k1⟩ := kk
          have HG := Aside0.mk hgx
          clear hgx
          have HX := Aside0.mk hx
          have HM := Aside0.mk hm
          have p2 : (0 ≤ (m : Int)) = True := eq_true (by omega)
          have q2 : ((m : Int) < (m : Int) + 1) = True := eq_true (by omega)
          rw [hm]
          clear hx hp hm hpos
          go_upto_region 12 with fail
          generalize (wr.alloc (.cells #[.int .i64 s.f0, .int .u8 s.f1] 97)) = w1 at *
          have hb : (m : Int) ≤ 400 := by have := HM.out; have := HS.out; omega
          have hs1 : IntKind.i64.wrap (m : Int) = (m : Int) := IntWalk.i64_in _ (by omega)
          have hs0 : IntKind.i64.wrap ((m : Int) + 1 - 1) = (m : Int) := by rw [show (m : Int) + 1 - 1 = m by omega]; exact hs1
          have hs2 : (0 : Int) ≤ (m : Int) := by omega
          have hs3 : (m : Int) < (m : Int) + 1 := by omega
          have hs4 : ((m : Int)).toNat = m := by omega
          have hi2 := World.new_ne w1 ⟨g, m * 2, none⟩ k0
          refine start_ (n := 13) (S := fun w' => w'.cell? ⟨w.heap.size, 2, none⟩ = some (.func (.func 65) #[] #[.pointer (some pb)]) ∧ w'.cell? ⟨g, m * 2, none⟩ = some (.string x.1) ∧ w'.cell? ⟨g, m * 2 + 1, none⟩ = some (.bool x.2)) (ds := [12]) #[false, false, false, false, false, false, false, false, false, false, false, false, false] (by kernel_rfl) rfl rfl ⟨hw2, k0, k1⟩ (fun hHeld => ?_)
          refine pure_ (i := 0) (N := (some 51)) (v := ?_) (a' := ?_) #[true, false, false, false, false, false, false, false, false, false, false, false, false] rfl rfl (by kernel_rfl) (fun _ _ _ h => h) (Or.inl ⟨by rfl, ?_⟩) ?_ ?_
          rotate_left
          · intro w'
            go_simp
            with_reducible rfl
          rotate_left
          · simp only [Act.put, sA_, sZ_, sS_, i64_w, i32_w]
            rfl
          refine pure_ (i := 1) (N := (some 52)) (v := ?_) (a' := ?_) #[true, true, false, false, false, false, false, false, false, false, false, false, false] rfl rfl (by kernel_rfl) (fun _ _ _ h => h) (Or.inl ⟨by rfl, ?_⟩) ?_ ?_
          rotate_left
          · intro w'
            go_simp
            with_reducible rfl
          rotate_left
          · simp only [Act.put, sA_, sZ_, sS_, i64_w, i32_w]
            rfl
          refine pure_ (i := 2) (N := (some 53)) (v := ?_) (a' := ?_) #[true, true, true, false, false, false, false, false, false, false, false, false, false] rfl rfl (by kernel_rfl) (fun _ _ _ h => h) (Or.inl ⟨by rfl, ?_⟩) ?_ ?_
          rotate_left
          · intro w'
            go_simp
            with_reducible rfl
          rotate_left
          · simp only [Act.put, sA_, sZ_, sS_, i64_w, i32_w]
            rfl
          refine pure_ (i := 3) (N := (some 54)) (v := ?_) (a' := ?_) #[true, true, true, true, false, false, false, false, false, false, false, false, false] rfl rfl (by kernel_rfl) (fun _ _ _ h => h) (Or.inl ⟨by rfl, ?_⟩) ?_ ?_
          rotate_left
          · intro w'
            go_simp
            with_reducible rfl
          rotate_left
          · simp only [Act.put, sA_, sZ_, sS_, i64_w, i32_w]
            rfl
          refine pure_ (i := 5) (N := (some 56)) (v := ?_) (a' := ?_) #[true, true, true, true, false, true, false, false, false, false, false, false, false] rfl rfl (by kernel_rfl) (fun _ _ _ h => h) (Or.inl ⟨by rfl, ?_⟩) ?_ ?_
          rotate_left
          · intro w'
            go_simp
            with_reducible rfl
          rotate_left
          · simp only [Act.put, sA_, sZ_, sS_, i64_w, i32_w]
            rfl
          refine pure_ (i := 6) (N := (some 57)) (v := ?_) (a' := ?_) #[true, true, true, true, false, true, true, false, false, false, false, false, false] rfl rfl (by kernel_rfl) (fun _ _ _ h => h) (Or.inl ⟨by rfl, ?_⟩) ?_ ?_
          rotate_left
          · intro w'
            go_simp
            with_reducible rfl
          rotate_left
          · simp only [Act.put, sA_, sZ_, sS_, i64_w, i32_w]
            rfl
          refine pure_ (i := 7) (N := (some 58)) (v := ?_) (a' := ?_) #[true, true, true, true, false, true, true, true, false, false, false, false, false] rfl rfl (by kernel_rfl) (fun _ _ _ h => h) (Or.inl ⟨by rfl, ?_⟩) ?_ ?_
          rotate_left
          · intro w'
            go_simp
            with_reducible rfl
          rotate_left
          · simp only [Act.put, sA_, sZ_, sS_, i64_w, i32_w]
            rfl
          refine pure_ (i := 8) (N := (some 59)) (v := ?_) (a' := ?_) #[true, true, true, true, false, true, true, true, true, false, false, false, false] rfl rfl (by kernel_rfl) (fun _ _ _ h => h) (Or.inl ⟨by rfl, ?_⟩) ?_ ?_
          rotate_left
          · intro w'
            go_simp
            with_reducible rfl
          rotate_left
          · simp only [Act.put, sA_, sZ_, sS_, i64_w, i32_w]
            rfl
          refine take_ (i := 4) (N := (some 55)) (v := ?_) (a' := ?_) #[true, true, true, true, true, true, true, true, true, false, false, false, false] rfl rfl (by kernel_rfl) (fun _ _ _ h => h) (Or.inl ⟨by rfl, ?_⟩) hHeld ?_ ?_
          rotate_left
          · rintro w' ⟨s0, s1, s2⟩
            go_simp
            with_reducible rfl
          rotate_left
          · simp only [Act.put, sA_, sZ_, sS_, i64_w, i32_w]
            rfl
          refine take_ (i := 9) (N := (some 60)) (v := ?_) (a' := ?_) #[true, true, true, true, true, true, true, true, true, true, false, false, false] rfl rfl (by kernel_rfl) (fun _ _ _ h => h) (Or.inl ⟨by rfl, ?_⟩) hHeld ?_ ?_
          rotate_left
          · rintro w' ⟨s0, s1, s2⟩
            go_simp
            with_reducible rfl
          rotate_left
          · simp only [Act.put, sA_, sZ_, sS_, i64_w, i32_w]
            rfl
          refine one_ (i := 10) (N := (some 61)) #[true, true, true, true, true, true, true, true, true, true, true, false, false] rfl rfl (by kernel_rfl) (by decide) (fun K hK => ?_)
          have HQ1 := Aside0.mk (HQ.out.below (below_drew (Below.refl _ _)))
          refine call_ 65 #[vP x, .pointer (some pb)] (by rfl) rfl (by go_simp) ?_
          refine (H3.out _ HQ1.out.bl _ _ HX.out).mono ?_
          rintro e w2 ⟨rfl, hb2⟩
          refine ⟨_, rfl, ?_⟩
          have HP2 := Aside0.mk (HQ1.out.below hb2)
          have HB2 := Aside0.mk hb2
          clear hb2
          have kk2 := HP2.out.at m (by omega)
          rw [HG.out] at kk2
          refine hK.out _ _ (⟨HP2.out.way2, kk2.1, kk2.2⟩) (fun hHeld => ?_)
          clear hK K
          refine norm_ (a' := ?_) ?_ ?_
          rotate_left
          · show Act.put _ (some 61) _ = _
            simp only [Act.put, sA_, sZ_, sS_, i64_w, i32_w]
            rfl
          refine pure_ (i := 11) (N := (some 62)) (v := ?_) (a' := ?_) #[true, true, true, true, true, true, true, true, true, true, true, true, false] rfl rfl (by kernel_rfl) (fun _ _ _ h => h) (Or.inl ⟨by rfl, ?_⟩) ?_ ?_
          rotate_left
          · intro w'
            go_simp
            with_reducible rfl
          rotate_left
          · simp only [Act.put, sA_, sZ_, sS_, i64_w, i32_w]
            rfl
          refine last_ (i := 12) (N := none) #[true, true, true, true, true, true, true, true, true, true, true, true, true] rfl rfl (by kernel_rfl) (by decide) (fun K hK => ?_)
          refine skip_ (w1 := w2.setCells g (m * 2) [.string y.1, .bool y.2]) (by rfl) rfl ?_ ?_
          · have hrun := HP2.out.store m (Nat.lt_succ_self m) y
            simp [execOp, Act.eval, hrun]
          refine hK.out _ _ ?_
          clear hK K
          refine done_ (by kernel_rfl) ?_
          clear hs0 hs1 hs2 hs3 hs4 k0 k1 kk2 hw0 hw1 hw2 hi2 HQ HQ1
          go_wp2_with fail
          have hfin : Pile pa pb w (w2.setCells g (m * 2) [.string y.1, .bool y.2]) (.slice (some ⟨g, 0, none⟩) (m + 1) c) (st.set m y) := HP2.out.put m (by omega) y
          have HF := Aside0.mk hfin
          have HZ : (st.set m y).length = st.length := List.length_set
          have HZ := Aside0.mk HZ
          clear hfin
          go_roundw
          case rel => exact ⟨i + 1, st.set m y, by go_num, by omega, HN, ⟨by have := HS.out; have := HZ.out; omega⟩, HF⟩
          case measure => simp [intOf]; omega
        · rw [if_neg hpos] at hp; cases hp
      · rw [if_neg k4] at hp
        have e4 : (s.f0 == 4) = false := beq_eq_false_iff_ne.mpr k4
        clear k3 k4
        cases hx : leaf s with
        | none => rw [hx] at hp; cases hp
        | some x =>
        rw [hx] at hp
        obtain rfl := Option.some.inj hp
        have HX := Aside0.mk hx
        clear hx hp
        go_wp2_with fail
        refine (H1.out _ HQ.out.bl _ _ HX.out).mono ?_
        rintro e w2 ⟨rfl, hb2⟩
        have HP2 := Aside0.mk (HQ.out.below hb2)
        clear hb2 hw0 hw1 hw2 HQ
        have HL := Aside0.mk HP2.out.low
        go_wp2_with ((with_reducible refine gate_builtin (b := .append) (xs := #[.tmp 20, .tmp 25]) rfl ?_); at_builtin; refine Kd.R_append kP (w0 := w2) (w.heap.size + 2) rfl (.tmp 20) (.tmp 25) 187 116 (.agg #[(.string ⟨#[]⟩), (.bool false)]) 24 rfl Try.underlying187 infoP rfl (by decide) (by omega) (.slice A st.length c) st x [.string x.1, .bool x.2] (fun _ => True) (fun _ => False) rfl rfl (kP_mkM _ _ _ _) (fun _ hk => hk.elim) (fun _ _ => trivial) HP2.out.row (Below.refl _ _) HL.out (by have := HS.out; omega) ?_; intro v5 w5 ho5 hb5 hg5 hat5)
        have HP5 := Aside0.mk (HP2.out.grown ho5 hg5)
        clear ho5 hb5 hg5 hat5 HP2 HP
        go_roundw
        case rel => exact ⟨i + 1, st ++ [x], by go_num, by omega, HN, ⟨by have := HS.out; simp; omega⟩, HP5⟩
        case measure => simp [intOf]; omega
  · have hx : i = l.length := by omega
    subst hx
    have h := HR'.out
    rw [List.drop_length] at h
    simp only [run] at h
    have hpos : 0 < st.length := by
     cases st with
     | nil => cases h
     | cons a b => simp
    obtain ⟨g, cap, hv, hg1, hg2, _⟩ := Kd.R_form HP.out.row hpos
    injection hv with ha _ hcap
    subst ha hcap
    obtain ⟨cs, _, hM, hcc⟩ := Kd.R_getA HP.out.row (⟨#[]⟩, false) 0 (by omega) (by omega)
    have hst : st.getD (0 : Int).toNat (⟨#[]⟩, false) = r := by
     cases st with
     | nil => cases h
     | cons a b => exact Option.some.inj h
    rw [hst] at hM
    obtain rfl := kP_openM hM
    have k0 : wr.cell? ⟨g, 0, none⟩ = some (.string r.1) := hcc 0 _ rfl
    have k1 : wr.cell? ⟨g, 1, none⟩ = some (.bool r.2) := hcc 1 _ rfl
    have m0 : wr.cell? ⟨w.heap.size + 1, 0, none⟩ = some (.string ⟨#[]⟩) := (blk_cell HP.out.res 0).trans rfl
    have m1 : wr.cell? ⟨w.heap.size + 1, 1, none⟩ = some (.bool false) := (blk_cell HP.out.res 1).trans rfl
    have p0 := blk_frozen HP.out.res 0
    have p1 := blk_frozen HP.out.res 1
    have q0 : (0 < (st.length : Int)) = True := eq_true (by omega)
    clear hcc hM h HR'
    go_wp2_with fail
    refine bodyPost_ret (results_single rfl (.cell (w.heap.size + 1) 116 #[.string r.1, .bool r.2] (0, 0) _ rfl (blk_put (cs := #[.string r.1, .bool false]) (blk_put (cs := #[.string ⟨#[]⟩, .bool false]) HP.out.res 0 _ rfl) 1 _ rfl) Try.underlying116 rfl (by kernel_rfl) .nil)) rfl ?_
    exact ⟨rfl, below_set (below_set HP.out.bl (by (try dsimp only); omega)) (by (try dsimp only); omega)⟩
end Go.Proofs.Ytcbkihhpnndpkaa.HFoldText
