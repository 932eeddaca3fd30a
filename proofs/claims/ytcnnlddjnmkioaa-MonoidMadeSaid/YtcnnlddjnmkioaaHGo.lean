/- The reference's Go: where a word leads. -/
import Derived.Test.YtcnnlddjnmkioaaHLaws
import Derived.Test.YtcnnlddjnmkioaaHAcc
set_option linter.unusedVariables false
set_option linter.unusedSimpArgs false
namespace Go.Proofs.Ytcnnlddjnmkioaa.HGo
open Go Go.RowKit Go.Proofs.Ytcnnlddjnmkioaa.MA Go.Proofs.Ytcnnlddjnmkioaa.MB Go.Proofs.Ytcnnlddjnmkioaa.HTable Go.Proofs.Ytcnnlddjnmkioaa.HMon Go.Proofs.Ytcnnlddjnmkioaa.HAuto Go.Proofs.Ytcnnlddjnmkioaa.PureMon Go.Proofs.Ytcnnlddjnmkioaa.HMeth Go.Proofs.YtcnnlddjnmkioaaW.PrintWords Go.Proofs.YtcnnlddjnmkioaaW.PrintLast Go.Proofs.YtcnnlddjnmkioaaW.PrintMore

/-- The state behind a word. -/
def st (nx : List Int) (k s : Nat) (u : List Nat) : Nat := u.foldl (fun s l => (nx.getD (s * k + l) 0).toNat) s
theorem st_cons (nx : List Int) (k s l : Nat) (u : List Nat) : st nx k s (l :: u) = st nx k (nx.getD (s * k + l) 0).toNat u := rfl
theorem st_act {k n : Nat} {nx : List Int} (hL : ∀ l, l < k → HTable.Good n ((letters nx k n).getD l [])) : ∀ (u : List Nat) {p : List Nat}, HTable.Good n p → (∀ l ∈ u, l < k) → ∀ s, s < n → st nx k (im p s) u = im (act n (letters nx k n) p u) s
  | [], _, _, _, _, _ => rfl
  | l :: u, p, hp, hu, s, hs => by
    have hl := hu l (by simp)
    rw [st_cons, act_cons, ← st_act hL u (good_comp hp (hL l hl)) (fun x hx => hu x (by simp [hx])) s hs]
    congr 1
    unfold comp
    rw [im_map _ _ _ hs, HBuilt.lets_get _ _ _ _ hl]
    unfold lt
    rw [im_map _ _ _ (hp.im s hs)]
theorem im_id (n s : Nat) (h : s < n) : im (List.range n) s = s := by
  have := im_map n (fun i => i) s h
  rwa [List.map_id'] at this
theorem bt_enc (u : List Nat) (p : Nat) (h : p < u.length) (h8 : u[p] < 8) : (bt (enc u) (p : Int) - 97) % 256 = (u[p] : Int) := by
  have e : bt (enc u) (p : Int) = ((97 + u[p] : Nat) : Int) := by
    unfold bt
    rw [dif_pos (by rw [enc_size]; omega)]
    have := enc_get u p h
    rw [show ((enc u)[(p : Int).toNat]'(by rw [enc_size]; omega)) = UInt8.ofNat (97 + u[p]) from this]
    simp
    omega
  rw [e]
  omega
/-- An automaton's rows hold states. -/
theorem ok_of (d : MD) (hd : d.Ok) : HAuto.Ok d.k d.nx d.ac := by
  obtain ⟨K, hK⟩ := hd.fit.chk
  by_cases h : HAuto.Ok d.k d.nx d.ac
  · exact h
  · exfalso
    have h1 := check_bad d.k d.nx d.ac h (40000 + K) (by omega)
    have h2 : ∀ j, auto_Check.f (K + j) d.k d.nx d.ac = some 0 := by
      intro j
      induction j with
      | zero => exact hK
      | succ j ih => exact auto_Check.mono _ _ _ _ _ ih
    rw [Nat.add_comm, h2 40000] at h1
    cases h1
theorem entry_ok (d : MD) (hd : d.Ok) (s l : Nat) (hs : s < d.ac.length) (hl : l < d.k) : d.nx.getD (s * d.k + l) 0 = ((im (lt d.nx d.k d.ac.length l) s : Nat) : Int) := by
  have hx := idx_lt (n := d.ac.length) hs hl
  rw [← hd.fit.len] at hx
  have := (ok_of d hd).2.2.2.2.2 (d.nx.getD (s * d.k + l) 0) (by rw [List.getD_eq_getElem?_getD, List.getElem?_eq_getElem hx]; exact List.getElem_mem hx)
  unfold lt
  rw [im_map _ _ _ hs]
  omega
theorem go_l0 (d : MD) (hd : d.Ok) : ∀ (m p f s : Nat) (u : List Nat), (∀ l ∈ u, l < d.k) → u.length < 4611686018427387904 → s < d.n → p + m = u.length → m < f → eggboxref08_Go.l0 f (s : Int) (enc u) (p : Int) d.k d.nx d.ac = some ((st d.nx d.k s (u.drop p) : Nat) : Int)
  | 0, p, f + 1, s, u, hu, hb, hs, h, _ => by
    rw [eggboxref08_Go.l0, enc_size, if_neg (by omega), List.drop_eq_nil_of_le (by omega)]
    rfl
  | m + 1, p, f + 1, s, u, hu, hb, hs, h, hf => by
    have hp : p < u.length := by omega
    have hl := hu u[p] (List.getElem_mem hp)
    have k8 := hd.fit.k8
    have n64 := hd.fit.n64
    have hn := hd.n
    have hlen := hd.fit.len
    have hik : s * d.k ≤ 64 * 8 := Nat.mul_le_mul (by omega) k8
    have hx := idx_lt (n := d.n) hs hl
    rw [hn, ← hlen] at hx
    have e2 : ((s : Int) * d.k) = ((s * d.k : Nat) : Int) := by simp
    have hG := hd.fit.good u[p] hl
    have hlt : (d.nx.getD (s * d.k + u[p]) 0) = ((im (lt d.nx d.k d.ac.length u[p]) s : Nat) : Int) := by
      exact entry_ok d hd s u[p] (by omega) hl
    have hs2 : im (lt d.nx d.k d.ac.length u[p]) s < d.n := by rw [hn]; exact hG.im s (by omega)
    rw [eggboxref08_Go.l0, enc_size, if_pos (by omega), if_pos (by omega), bt_enc u p hp (by omega), e2, IntWalk.wrap64_in ((s * d.k : Nat) : Int) (by omega), IntWalk.wrap64_in (((s * d.k : Nat) : Int) + (u[p] : Int)) (by omega), if_pos (by omega), if_pos (by omega), IntWalk.wrap64_in ((p : Int) + 1) (by omega)]
    rw [show rd d.nx (((s * d.k : Nat) : Int) + (u[p] : Int)) = d.nx.getD (s * d.k + u[p]) 0 from rfl, hlt, show (p : Int) + 1 = ((p + 1 : Nat) : Int) from rfl, go_l0 d hd m (p + 1) f _ u hu hb hs2 (by omega) (by omega), List.drop_eq_getElem_cons hp, st_cons, hlt, Int.toNat_natCast]
theorem go_calls (w : World) (d : MD) (hd : d.Ok) (A1 : Option Addr) (c1 : Nat) (A2 : Option Addr) (c2 : Nat) (hn : Kd.C (Kd.int .i64) w A1 d.nx.length d.nx) (hc1 : d.nx.length ≤ c1) (ha : Kd.C Kd.bool w A2 d.ac.length d.ac) (hc2 : d.ac.length ≤ c2) (s : Nat) (hs : s < d.n) (sw : ByteArray) (u : List Nat) (hsw : sw = enc u) (hu : ∀ l ∈ u, l < d.k) (hb : sw.size < 4611686018427387904) (r : Nat) (hr : r = im (act d.n (letters d.nx d.k d.n) (List.range d.n) u) s) :
    Calls Try.prog 28 #[.agg #[.int .i64 d.k, .slice A1 d.nx.length c1, .slice A2 d.ac.length c2], .int .i64 s, .string sw] w fun e w' => e = .returned (.int .i64 r) ∧ Below w.heap.size w w' := by
  subst hsw
  rw [enc_size] at hb
  have h := go_l0 d hd u.length 0 (u.length + 1) s u hu hb hs (by omega) (by omega)
  rw [List.drop_zero] at h
  have e := st_act hd.full.letters u (good_id d.n) hu s hs
  rw [im_id d.n s hs] at e
  rw [hr, ← e]
  exact eggboxref08_Go.calls (u.length + 1) d.k A1 c1 d.nx A2 c2 d.ac s (enc u) _ w hn hc1 ha hc2 h
end Go.Proofs.Ytcnnlddjnmkioaa.HGo
