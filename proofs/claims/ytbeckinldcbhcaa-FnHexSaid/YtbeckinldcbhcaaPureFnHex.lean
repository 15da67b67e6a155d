/- Bytes are read back from their figures, and figures that are read are written just so, for the texts that are drawn; no condition. -/
import Derived.Test.YtbeckinldcbhcaaQFnHexx4
import Derived.Test.YtbeckinldcbhcaaWOwn
set_option linter.unusedVariables false
set_option linter.unusedSimpArgs false
namespace Go.Proofs.Ytbeckinldcbhcaa.Pure
open Go.RowKit Go.Proofs.Ytbeckinldcbhcaa.QFnHex Go.Proofs.YtbeckinldcbhcaaW.PrintWords Go.Proofs.YtbeckinldcbhcaaW.PrintLast Go.Proofs.YtbeckinldcbhcaaW.Own

theorem nat_lt {i n : Nat} (h : i < n) : ((i : Int) < (n : Int)) = True := by simp [h]
theorem nat_nlt {i n : Nat} (h : n ≤ i) : ((i : Int) < (n : Int)) = False := by simp [h]
theorem nat_pos (i : Nat) : (0 ≤ (i : Int)) = True := by simp
theorem wrap_succ {i : Nat} (h : i < 9223372036854775807) : wrap64 ((i : Int) + 1) = ((i + 1 : Nat) : Int) := by unfold wrap64; omega
theorem wrap_pred {i : Nat} (h : i < 9223372036854775807) : wrap64 ((i : Int) - 1) = (i : Int) - 1 := by unfold wrap64; omega
theorem wrap_sub {a : Int} {n : Nat} (h0 : 0 ≤ a) (h1 : a ≤ 9223372036854775807) (hn : n ≤ maxLen) : wrap64 (a - (n : Int)) = a - (n : Int) := by unfold wrap64; unfold maxLen at hn; omega
theorem rd_nat (l : List Int) (i : Nat) : rd l (i : Int) = l.getD i 0 := rfl
theorem getD_of {α : Type} {l : List α} {i : Nat} (h : i < l.length) (d : α) : l.getD i d = l[i] := by simp [List.getD, List.getElem?_eq_getElem h]
theorem drop_at {α : Type} {l : List α} {i : Nat} (h : i < l.length) : l.drop i = l[i] :: l.drop (i + 1) := List.drop_eq_getElem_cons h
theorem bt_nat (s : ByteArray) (i : Nat) (h : i < s.size) : bt s (i : Int) = ((s[i]'h).toNat : Int) := by
  unfold bt
  have : (i : Int).toNat = i := by omega
  simp [h]
/-- From an index on: at the end, and one round. -/
theorem from_index {P : Nat → Prop} {n : Nat} (h0 : P n) (h1 : ∀ i, i < n → P (i + 1) → P i) : ∀ i, i ≤ n → P i := by
  have key : ∀ d i, i + d = n → P i := by
    intro d
    induction d with
    | zero => intro i h; obtain rfl : i = n := by omega
              exact h0
    | succ d ih => intro i h; exact h1 i (by omega) (ih (i + 1) (by omega))
  intro i hi
  exact key (n - i) i (by omega)
/-- A row that is filled from the front. -/
def fillTo {α : Type} (xs : List α) (z : α) (i : Nat) : List α := xs.take i ++ List.replicate (xs.length - i) z
theorem fillTo_length {α : Type} (xs : List α) (z : α) (i : Nat) (h : i ≤ xs.length) : (fillTo xs z i).length = xs.length := by
  unfold fillTo; rw [List.length_append, List.length_take, List.length_replicate]; omega
theorem fillTo_zero {α : Type} (xs : List α) (z : α) : fillTo xs z 0 = List.replicate xs.length z := by simp [fillTo]
theorem fillTo_all {α : Type} (xs : List α) (z : α) : fillTo xs z xs.length = xs := by simp [fillTo]
theorem fillTo_set {α : Type} (xs : List α) (z : α) (i : Nat) (h : i < xs.length) : (fillTo xs z i).set i xs[i] = fillTo xs z (i + 1) := by
  unfold fillTo
  have hl : (xs.take i).length = i := by rw [List.length_take]; omega
  have e : xs.length - i = (xs.length - (i + 1)) + 1 := by omega
  rw [e, List.replicate_succ, List.set_append_right _ _ (by omega), hl, Nat.sub_self, List.set_cons_zero, List.take_succ_eq_append_getElem h, List.append_assoc]
  rfl
def HX : ByteArray := ⟨#[48, 49, 50, 51, 52, 53, 54, 55, 56, 57, 97, 98, 99, 100, 101, 102]⟩
def figs (b : Int) : List Int := [bt HX (b / 16), bt HX (b % 16)]
def hexN (bs : List UInt8) : List Int := bs.flatMap fun c => figs (c.toNat : Int)
theorem size_data (s : ByteArray) : s.size = s.data.toList.length := by rw [Array.length_toList]; rfl
theorem hexN_cons (c : UInt8) (bs : List UInt8) : hexN (c :: bs) = figs (c.toNat : Int) ++ hexN bs := rfl
theorem HX_size : (HX.size : Int) = 16 := rfl
theorem figs_len (b : Int) : (figs b).length = 2 := rfl
theorem spec_Hex_ev (s : ByteArray) (hl : s.size ≤ 1048576) : Ev (fun k => spec_Hex.f k s) (strOfNums (hexN s.data.toList)) := by
  have key : ∀ i, i ≤ s.size → ∀ acc : List Int, acc.length = 2 * i → Ev (fun k => spec_Hex.l0 k s HX acc (i : Int)) (strOfNums (acc ++ hexN (s.data.toList.drop i))) := by
    refine from_index ?_ ?_
    · intro acc _
      refine Ev.step (fun k => by rw [spec_Hex.l0]) ?_
      simp only [nat_nlt (Nat.le_refl _), if_false]
      exact Ev.const (by rw [size_data, List.drop_length]; simp [hexN])
    · intro i hi ih acc hacc
      refine Ev.step (fun k => by rw [spec_Hex.l0]) ?_
      have hi' : i < s.data.toList.length := by rw [← size_data]; exact hi
      have hb := (s[i]'hi).toNat_lt
      rw [drop_at hi', hexN_cons]
      have e1 : Int.tdiv ((s[i]'hi).toNat : Int) 16 % 256 = ((s[i]'hi).toNat : Int) / 16 := by rw [Int.tdiv_eq_ediv_of_nonneg (by omega)]; omega
      have e2 : Int.tmod ((s[i]'hi).toNat : Int) 16 = ((s[i]'hi).toNat : Int) % 16 := by rw [Int.tmod_eq_emod_of_nonneg (by omega)]
      simp only [nat_lt hi, nat_pos, if_true, bt_nat s i hi, e1, e2, HX_size, wrap_succ (show i < 9223372036854775807 by omega)]
      refine Ev.ifp (by omega) (Ev.ifp (by omega) (Ev.ifp (by omega) (Ev.ifp (by omega) ?_)))
      simp only [Option.bind_some]
      refine Ev.ifp (by simp; omega) ?_
      have h := ih (acc ++ figs ((s[i]'hi).toNat : Int)) (by rw [List.length_append, hacc, figs_len]; omega)
      rw [List.append_assoc] at h
      exact h
  unfold spec_Hex.f
  have h := key 0 (Nat.zero_le _) [] rfl
  rw [List.drop_zero, List.nil_append] at h
  exact h
theorem impl_Hex_ev (s : ByteArray) (hl : s.size ≤ 1048576) : Ev (fun k => impl_Hex.f k s) (strOfNums (hexN s.data.toList)) := by
  have key : ∀ i, i ≤ s.size → ∀ acc : List Int, acc.length = 2 * i → Ev (fun k => impl_Hex.l0 k s acc (s.size : Int) (i : Int)) (strOfNums (acc ++ hexN (s.data.toList.drop i))) := by
    refine from_index ?_ ?_
    · intro acc _
      refine Ev.step (fun k => by rw [impl_Hex.l0]) ?_
      simp only [nat_nlt (Nat.le_refl _), if_false]
      exact Ev.const (by rw [size_data, List.drop_length]; simp [hexN])
    · intro i hi ih acc hacc
      refine Ev.step (fun k => by rw [impl_Hex.l0]) ?_
      have hi' : i < s.data.toList.length := by rw [← size_data]; exact hi
      have hb := (s[i]'hi).toNat_lt
      rw [drop_at hi', hexN_cons]
      have e2 : Go.bits .and .u8 ((s[i]'hi).toNat : Int) 15 = ((s[i]'hi).toNat : Int) % 16 := u8_and15 _ (by omega) (by omega)
      simp only [nat_lt hi, nat_pos, if_true, bt_nat s i hi, e2, wrap_succ (show i < 9223372036854775807 by omega)]
      refine Ev.ifp (by omega) (Ev.ifp (by omega) (Ev.ifp (by omega) (Ev.ifp (by omega) ?_)))
      simp only [Option.bind_some]
      refine Ev.ifp (by simp; omega) ?_
      have h := ih (acc ++ figs ((s[i]'hi).toNat : Int)) (by rw [List.length_append, hacc, figs_len]; omega)
      rw [List.append_assoc] at h
      exact h
  unfold impl_Hex.f
  have w : wrap64 (2 * (s.size : Int)) = 2 * (s.size : Int) := by unfold wrap64; omega
  rw [w]
  refine Ev.ifp (by omega) (Ev.ifp (by omega) ?_)
  have h := key 0 (Nat.zero_le _) [] rfl
  rw [List.drop_zero, List.nil_append] at h
  exact h
theorem size_data' (s : ByteArray) : s.size = s.data.toList.length := by rw [Array.length_toList]; rfl
theorem drop_two (s : ByteArray) (i : Nat) (h : i + 1 < s.size) : ∃ a b : UInt8, s.data.toList.drop i = a :: b :: s.data.toList.drop (i + 2) ∧ bt s (i : Int) = (a.toNat : Int) ∧ bt s ((i + 1 : Nat) : Int) = (b.toNat : Int) := by
  have h1 : i < s.data.toList.length := by rw [← size_data']; omega
  have h2 : i + 1 < s.data.toList.length := by rw [← size_data']; omega
  refine ⟨s.data.toList[i], s.data.toList[i + 1], ?_, bt_nat s i (by omega), bt_nat s (i + 1) h⟩
  rw [drop_at h1, drop_at h2]
theorem u8_range (a : UInt8) : 0 ≤ (a.toNat : Int) ∧ (a.toNat : Int) < 256 := by
  have := a.toNat_lt
  omega
def u8 (n : Int) : UInt8 := UInt8.ofNat n.toNat
theorem u8_toNat {n : Int} (h : 0 ≤ n ∧ n < 256) : ((u8 n).toNat : Int) = n := by
  unfold u8
  rw [UInt8.toNat_ofNat']
  omega
theorem u8_of (c : UInt8) : u8 (c.toNat : Int) = c := by
  unfold u8
  simp
theorem sON_data (ns : List Int) : (strOfNums ns).data.toList = ns.map u8 := rfl
theorem ba_ext {s t : ByteArray} (h : s.data.toList = t.data.toList) : s = t := by
  cases s; cases t
  congr 1
  exact Array.toList_inj.mp h
theorem figs_hi : ∀ n : Fin 256, figV (bt HX ((n.val : Int) / 16)) = (n.val : Int) / 16 ∧ figV (bt HX ((n.val : Int) % 16)) = (n.val : Int) % 16 ∧ (0 ≤ bt HX ((n.val : Int) / 16) ∧ bt HX ((n.val : Int) / 16) < 256) ∧ (0 ≤ bt HX ((n.val : Int) % 16) ∧ bt HX ((n.val : Int) % 16) < 256) := of_decide_eq_true (by kernel_rfl)
theorem figs_back : ∀ n : Fin 256, 0 ≤ figV (n.val : Int) → bt HX (figV (n.val : Int)) = (n.val : Int) := of_decide_eq_true (by kernel_rfl)
theorem get_hex : ∀ (bs : List UInt8) (acc : List Int), hexGetV ((hexN bs).map u8) acc = (strOfNums (acc ++ bs.map fun c => (c.toNat : Int)), true)
  | [], acc => by
    show hexGetV [] acc = _
    rw [hexGetV]
    simp
  | c :: bs, acc => by
    obtain ⟨h1, h2, h3, h4⟩ := figs_hi ⟨c.toNat, c.toNat_lt⟩
    have e : (hexN (c :: bs)).map u8 = u8 (bt HX ((c.toNat : Int) / 16)) :: u8 (bt HX ((c.toNat : Int) % 16)) :: (hexN bs).map u8 := rfl
    have hc := c.toNat_lt
    rw [e, hexGetV, u8_toNat h3, u8_toNat h4, h1, h2, if_neg (by simp only; omega), if_neg (by simp only; omega)]
    have e2 : (16 * ((c.toNat : Int) / 16) + (c.toNat : Int) % 16) % 256 = (c.toNat : Int) := by omega
    simp only
    rw [e2, get_hex bs, List.append_assoc]
    rfl
theorem get_back : ∀ (l : List UInt8) (acc : List Int) (y : ByteArray), hexGetV l acc = (y, true) → ∃ ns : List Int, y = strOfNums (acc ++ ns) ∧ (hexN (ns.map u8)).map u8 = l ∧ 2 * ns.length = l.length
  | [], acc, y, h => by
    rw [hexGetV] at h
    injection h with h _
    exact ⟨[], by rw [← h, List.append_nil], rfl, rfl⟩
  | [_], acc, y, h => by
    rw [hexGetV] at h
    injection h with _ h
    cases h
  | a :: b :: l, acc, y, h => by
    rw [hexGetV] at h
    split at h
    · injection h with _ h
      cases h
    · split at h
      · injection h with _ h
        cases h
      · rename_i ha hb
        obtain ⟨ns, h1, h2, h3⟩ := get_back l _ y h
        have ra := figV_lt (a.toNat : Int)
        have rb := figV_lt (b.toNat : Int)
        have ba := figs_back ⟨a.toNat, a.toNat_lt⟩ (by simp only; omega)
        have bb := figs_back ⟨b.toNat, b.toNat_lt⟩ (by simp only; omega)
        refine ⟨(16 * figV (a.toNat : Int) + figV (b.toNat : Int)) % 256 :: ns, by rw [h1, List.append_assoc]; rfl, ?_, by simp only [List.length_cons]; omega⟩
        obtain ⟨n, hn⟩ : ∃ n, (16 * figV (a.toNat : Int) + figV (b.toNat : Int)) % 256 = n := ⟨_, rfl⟩
        rw [hn, List.map_cons, hexN_cons, List.map_append, h2, u8_toNat (by omega)]
        have e1 : n / 16 = figV (a.toNat : Int) := by omega
        have e2 : n % 16 = figV (b.toNat : Int) := by omega
        unfold figs
        rw [e1, e2, ba, bb]
        simp only [List.map_cons, List.map_nil, u8_of]
        rfl
/-- bytes -/
def Bytes (b : List Int) : Prop := b.length ≤ 2000 ∧ ∀ x ∈ b, 0 ≤ x ∧ x ≤ 255
theorem rd_byte {b : List Int} (h : Bytes b) (i : Int) : 0 ≤ rd b i ∧ rd b i ≤ 255 := by
  unfold rd
  rw [List.getD_eq_getElem?_getD]
  cases e : b[i.toNat]? with
  | none => simp
  | some x => simpa using h.2 x (List.mem_of_getElem? e)
theorem xor_i64_range {a b : Int} (ha0 : 0 ≤ a) (ha : a < 4611686018427387904) (hb0 : 0 ≤ b) (hb : b < 4611686018427387904) : 0 ≤ Go.bits .xor .i64 a b := by
  obtain ⟨m, rfl⟩ := Int.eq_ofNat_of_zero_le ha0
  obtain ⟨n, rfl⟩ := Int.eq_ofNat_of_zero_le hb0
  have hx : m ^^^ n < 2 ^ 62 := Nat.xor_lt_two_pow (by omega) (by omega)
  have h1 : m % 2 ^ IntKind.i64.bits = m := Nat.mod_eq_of_lt (by simp [IntKind.bits]; omega)
  have h2 : n % 2 ^ IntKind.i64.bits = n := Nat.mod_eq_of_lt (by simp [IntKind.bits]; omega)
  simp only [Go.bits, BitVec.ofInt_natCast, BitVec.toNat_xor, BitVec.toNat_ofNat, h1, h2]
  rw [IntKind.wrap_i64]
  omega
theorem mix_range {u v k q : Int} (hu : 0 ≤ u ∧ u ≤ 255) (hv : 0 ≤ v ∧ v ≤ 255) (hk : 0 ≤ k ∧ k ≤ 1099511627776) (hq : 0 ≤ q ∧ q ≤ 1099511627776) :
    0 ≤ wrap64 ((wrap64 ((wrap64 ((wrap64 ((wrap64 u) * 131)) + (wrap64 ((wrap64 v) * 1117)))) + (wrap64 (k * 29)))) + (wrap64 ((wrap64 q) * 53))) ∧ wrap64 ((wrap64 ((wrap64 ((wrap64 ((wrap64 u) * 131)) + (wrap64 ((wrap64 v) * 1117)))) + (wrap64 (k * 29)))) + (wrap64 ((wrap64 q) * 53))) < 4611686018427387904 := by
  have e1 : wrap64 u = u := wrap_in (by omega) (by omega)
  have e2 : wrap64 v = v := wrap_in (by omega) (by omega)
  have e3 : wrap64 q = q := wrap_in (by omega) (by omega)
  rw [e1, e2, e3]
  clear e1 e2 e3
  have e4 : wrap64 (u * 131) = u * 131 := wrap_in (by omega) (by omega)
  have e5 : wrap64 (v * 1117) = v * 1117 := wrap_in (by omega) (by omega)
  have e6 : wrap64 (k * 29) = k * 29 := wrap_in (by omega) (by omega)
  have e7 : wrap64 (q * 53) = q * 53 := wrap_in (by omega) (by omega)
  rw [e4, e5, e6, e7]
  clear e4 e5 e6 e7
  have e8 : wrap64 (u * 131 + v * 1117) = u * 131 + v * 1117 := wrap_in (by omega) (by omega)
  rw [e8]
  clear e8
  have e9 : wrap64 (u * 131 + v * 1117 + k * 29) = u * 131 + v * 1117 + k * 29 := wrap_in (by omega) (by omega)
  rw [e9]
  clear e9
  have e10 : wrap64 (u * 131 + v * 1117 + k * 29 + q * 53) = u * 131 + v * 1117 + k * 29 + q * 53 := wrap_in (by omega) (by omega)
  rw [e10]
  clear e10
  omega
/-- A number is picked: it is below n, and the place is one on. -/
theorem pick_ev (b : List Int) (hb : Bytes b) (p n : Int) (hp0 : 0 ≤ p) (hp : p < 1099511627776) : ∃ v, Ev (fun k => spec_l1Rd_pick.f k b p n) (v, p + 1) ∧ 0 ≤ v ∧ (1 ≤ n → v < n) := by
  have hw : wrap64 (p + 1) = p + 1 := wrap_in (by omega) (by omega)
  have hw2 : wrap64 (p + 1 - 1) = p := (wrap_in (by omega) (by omega)).trans (by omega)
  by_cases hn : n < 1
  · refine ⟨0, ?_, by omega, by omega⟩
    unfold spec_l1Rd_pick.f
    refine Ev.ifp hn ?_
    refine Ev.step (fun k => by rw [spec_l1Rd_pick.j0]) ?_
    rw [hw]
    exact Ev.ifp rfl (Ev.now _)
  · by_cases hz : b.length = 0
    · refine ⟨0, ?_, by omega, by omega⟩
      unfold spec_l1Rd_pick.f
      refine Ev.ifn hn ?_
      refine Ev.step (fun k => by rw [spec_l1Rd_pick.j0]) ?_
      rw [hw]
      exact Ev.ifp (by rw [hz]; rfl) (Ev.now _)
    · have core : ∀ X : Int, 0 ≤ X → 0 ≤ Int.tmod X n ∧ Int.tmod X n < n := by
        intro X hX
        rw [Int.tmod_eq_emod_of_nonneg hX]
        exact ⟨Int.emod_nonneg _ (by omega), Int.emod_lt_of_pos _ (by omega)⟩
      have hn0 : ¬ n = 0 := by omega
      unfold spec_l1Rd_pick.f
      by_cases hlt : p < (b.length : Int)
      · have hr := rd_byte hb p
        have hwr : wrap64 (rd b p) = rd b p := wrap_in (by omega) (by omega)
        refine ⟨Int.tmod (rd b p) n, ?_, (core _ hr.1).1, fun _ => (core _ hr.1).2⟩
        refine Ev.ifn hn ?_
        refine Ev.step (fun k => by rw [spec_l1Rd_pick.j0]) ?_
        refine Ev.ifn (by simpa using hz) ?_
        rw [hw, hw2]
        refine Ev.ifp hlt (Ev.ifp hp0 (Ev.ifn hn0 ?_))
        rw [hwr]
        exact Ev.now _
      · have hlen : (b.length : Int) ≤ 2000 := by have := hb.1; omega
        have hi1 : 0 ≤ Int.tmod p (b.length : Int) ∧ Int.tmod p (b.length : Int) < (b.length : Int) := by
          rw [Int.tmod_eq_emod_of_nonneg hp0]
          exact ⟨Int.emod_nonneg _ (by omega), Int.emod_lt_of_pos _ (by omega)⟩
        have hj : wrap64 ((wrap64 (p * 7)) + 3) = p * 7 + 3 := by
          have : wrap64 (p * 7) = p * 7 := wrap_in (by omega) (by omega)
          rw [this]; exact wrap_in (by omega) (by omega)
        have hi2 : 0 ≤ Int.tmod (p * 7 + 3) (b.length : Int) ∧ Int.tmod (p * 7 + 3) (b.length : Int) < (b.length : Int) := by
          rw [Int.tmod_eq_emod_of_nonneg (by omega)]
          exact ⟨Int.emod_nonneg _ (by omega), Int.emod_lt_of_pos _ (by omega)⟩
        have hq : 0 ≤ Int.tdiv p (b.length : Int) ∧ Int.tdiv p (b.length : Int) ≤ 1099511627776 := by
          rw [Int.tdiv_eq_ediv_of_nonneg hp0]
          have h1 := Int.ediv_nonneg hp0 (show 0 ≤ (b.length : Int) by omega)
          have h2 := Int.ediv_le_self (b.length : Int) hp0
          omega
        have hA := mix_range (rd_byte hb (Int.tmod p (b.length : Int))) (rd_byte hb (Int.tmod (p * 7 + 3) (b.length : Int))) (k := p) ⟨hp0, by omega⟩ hq
        generalize hX : wrap64 ((wrap64 ((wrap64 ((wrap64 ((wrap64 (rd b (Int.tmod p (b.length : Int)))) * 131)) + (wrap64 ((wrap64 (rd b (Int.tmod (p * 7 + 3) (b.length : Int)))) * 1117)))) + (wrap64 (p * 29)))) + (wrap64 ((wrap64 (Int.tdiv p (b.length : Int))) * 53))) = X at hA
        have hY : 0 ≤ wrap64 (Int.tdiv X 64) ∧ wrap64 (Int.tdiv X 64) < 4611686018427387904 := by
          rw [Int.tdiv_eq_ediv_of_nonneg hA.1, wrap_in (by omega) (by omega)]; omega
        have hxor := xor_i64_range hA.1 hA.2 hY.1 hY.2
        refine ⟨Int.tmod (Go.bits .xor .i64 X (wrap64 (Int.tdiv X 64))) n, ?_, (core _ hxor).1, fun _ => (core _ hxor).2⟩
        refine Ev.ifn hn ?_
        refine Ev.step (fun k => by rw [spec_l1Rd_pick.j0]) ?_
        refine Ev.ifn (by simpa using hz) ?_
        rw [hw, hw2, hj]
        refine Ev.ifn hlt (Ev.ifn (by omega) (Ev.ifp hi1.1 (Ev.ifp hi1.2 (Ev.ifp hi2.1 (Ev.ifp hi2.2 (Ev.ifn hn0 ?_))))))
        rw [hX]
        exact Ev.now _
theorem open_eq (l : List Int) (hl : l.length ≤ maxLen) (h : ∀ x ∈ l, (Lit.int .u8 x).wf = true) : ∃ b, spec_l1Open.f l = some (b, 0) ∧ Bytes b := by
  have hw : ∀ x ∈ l, 0 ≤ x ∧ x ≤ 255 := fun x hx => wf_u8 (h x hx)
  unfold spec_l1Open.f
  by_cases c : (l.length : Int) > 2000
  · rw [if_pos c, if_pos (by omega)]
    exact ⟨_, rfl, by rw [List.length_take]; omega, fun x hx => hw x (List.mem_of_mem_take hx)⟩
  · rw [if_neg c]
    exact ⟨_, rfl, by omega, hw⟩
theorem one_ev (b : List Int) (hb : Bytes b) (p : Int) (hp0 : 0 ≤ p) (hp : p < 1099511627776) (l : List Int) (hl : 0 < l.length) : ∃ v, Ev (fun k => spec_l1Rd_one.f k b p l) (v, p + 1) ∧ v ∈ l := by
  obtain ⟨i, he, h0, h1⟩ := pick_ev b hb p (l.length : Int) hp0 hp
  have h1' := h1 (by omega)
  refine ⟨rd l i, ?_, ?_⟩
  · unfold spec_l1Rd_one.f
    refine Ev.bind he ?_
    exact Ev.ifp h0 (Ev.ifp h1' (Ev.now _))
  · unfold rd
    rw [getD_of (show i.toNat < l.length by omega)]
    exact List.getElem_mem _
theorem l13Bytes_l0 (b : List Int) (hb : Bytes b) : ∀ (d : Nat) (x : List Int) (p : Int), d ≤ 100 → 0 ≤ p → p + 3 * d ≤ 900000 → x.length + d ≤ 200 → (∀ n ∈ x, 0 ≤ n ∧ n < 256) → ∃ ns q, Ev (fun k => spec_l13Bytes.l0 k x (d : Int) b p) (strOfNums ns, q) ∧ ns.length ≤ x.length + d ∧ (∀ n ∈ ns, 0 ≤ n ∧ n < 256) ∧ p ≤ q ∧ q ≤ p + 3 * d
  | 0, x, p, hd, h0, h1, hx, hn => by
    refine ⟨x, p, ?_, by omega, hn, by omega, by omega⟩
    refine Ev.step (fun k => by rw [spec_l13Bytes.l0]) ?_
    exact Ev.ifn (by simp) (Ev.now _)
  | d + 1, x, p, hd, h0, h1, hx, hn => by
    obtain ⟨v, e, v0, v1⟩ := pick_ev b hb p 256 h0 (by omega)
    obtain ⟨u, e', u0, u1⟩ := pick_ev b hb (p + 1) 256 (by omega) (by omega)
    obtain ⟨t, e2, _⟩ := one_ev b hb (p + 1 + 1) (by omega) (by omega) [0, 255, 128, 1, v, u] (by simp)
    obtain ⟨ns, q, e3, hl, hr, hq0, hq1⟩ := l13Bytes_l0 b hb d (x ++ [t % 256]) (p + 1 + 1 + 1) (by omega) (by omega) (by omega) (by rw [List.length_append]; simp only [List.length_cons, List.length_nil]; omega) (by
      intro n hn'
      rcases List.mem_append.mp hn' with h | h
      · exact hn n h
      · rw [List.mem_singleton.mp h]; omega)
    refine ⟨ns, q, ?_, by rw [List.length_append] at hl; simp only [List.length_cons, List.length_nil] at hl; omega, hr, by omega, by omega⟩
    refine Ev.step (fun k => by rw [spec_l13Bytes.l0]) ?_
    have hw : wrap64 (((d + 1 : Nat) : Int) - 1) = (d : Int) := (wrap_in (by omega) (by omega)).trans (by omega)
    rw [hw]
    exact Ev.ifp (by omega) (Ev.bind e (Ev.bind e' (Ev.bind e2 (Ev.ifp (by omega) e3))))
theorem l13Bytes_ev (b : List Int) (hb : Bytes b) (p : Int) (h0 : 0 ≤ p) (h1 : p ≤ 800000) : ∃ ns q, Ev (fun k => spec_l13Bytes.f k b p) (strOfNums ns, q) ∧ ns.length ≤ 12 ∧ (∀ n ∈ ns, 0 ≤ n ∧ n < 256) ∧ p ≤ q ∧ q ≤ p + 40 := by
  obtain ⟨v, e, v0, v1⟩ := pick_ev b hb p 12 h0 (by omega)
  have v1 := v1 (by omega)
  obtain ⟨n, rfl⟩ := Int.eq_ofNat_of_zero_le v0
  obtain ⟨ns, q, e2, hl, hr, hq0, hq1⟩ := l13Bytes_l0 b hb n [] (p + 1) (by omega) (by omega) (by omega) (by simp; omega) (by simp)
  refine ⟨ns, q, ?_, by simp at hl; omega, hr, by omega, by omega⟩
  unfold spec_l13Bytes.f
  exact Ev.bind e e2
theorem DrawHex_ev (l : List Int) (hl : l.length ≤ maxLen) (h : ∀ x ∈ l, (Lit.int .u8 x).wf = true) : ∃ ns, Ev (fun k => spec_DrawHex.f k l) (strOfNums ns) ∧ ns.length ≤ 12 ∧ (∀ n ∈ ns, 0 ≤ n ∧ n < 256) := by
  obtain ⟨c, hc, hC⟩ := open_eq l hl h
  obtain ⟨ns, q, e, h1, h2, _, _⟩ := l13Bytes_ev c hC 0 (by omega) (by omega)
  refine ⟨ns, ?_, h1, h2⟩
  unfold spec_DrawHex.f
  rw [hc]
  simp only [Option.bind_some]
  exact Ev.bind e (Ev.now _)
theorem sON_size (ns : List Int) : (strOfNums ns).size = ns.length := by simp [strOfNums, ByteArray.size]
theorem hexN_len (bs : List UInt8) : (hexN bs).length = 2 * bs.length := by
  induction bs with
  | nil => rfl
  | cons c bs ih => rw [hexN_cons, List.length_append, ih, figs_len, List.length_cons]; omega
theorem extract_size_le (s : ByteArray) (i j : Nat) : (s.extract i j).size ≤ s.size := by
  rw [ByteArray.size_extract]; omega
theorem l1Rd_of_ev (b : List Int) (hb : Bytes b) (p : Int) (hp0 : 0 ≤ p) (hp : p < 1099511627776) (l : List ByteArray) (hl : 0 < l.length) : ∃ v, Ev (fun k => spec_l1Rd_of.f k b p l) (v, p + 1) ∧ v ∈ l := by
  obtain ⟨i, he, h0, h1⟩ := pick_ev b hb p (l.length : Int) hp0 hp
  have h1' := h1 (by omega)
  refine ⟨rdOf ByteArray.empty l i, ?_, ?_⟩
  · unfold spec_l1Rd_of.f
    refine Ev.bind he ?_
    exact Ev.ifp h0 (Ev.ifp h1' (Ev.now _))
  · unfold rdOf
    rw [getD_of (show i.toNat < l.length by omega)]
    exact List.getElem_mem _
theorem l13Cut_ev (b : List Int) (hb : Bytes b) (p : Int) (h0 : 0 ≤ p) (h1 : p ≤ 800000) (s : ByteArray) (hs : s.size ≤ 100000) : ∃ t q, Ev (fun k => spec_l13Cut.f k b p s) (t, q) ∧ t.size ≤ 2 * s.size + 100 ∧ p ≤ q ∧ q ≤ p + 10 := by
  have hw : wrap64 ((s.size : Int) + 1) = (s.size : Int) + 1 := wrap_in (by omega) (by omega)
  obtain ⟨v, e, v0, v1⟩ := pick_ev b hb p ((s.size : Int) + 1) h0 (by omega)
  have v1 := v1 (by omega)
  obtain ⟨u, e', u0, u1⟩ := pick_ev b hb (p + 1) 6 (by omega) (by omega)
  by_cases c0 : u = 0
  · obtain ⟨t, e2, ht⟩ := l1Rd_of_ev b hb (p + 1 + 1) (by omega) (by omega) [(⟨#[48]⟩ : ByteArray), (⟨#[103]⟩ : ByteArray), (⟨#[32]⟩ : ByteArray), (⟨#[10]⟩ : ByteArray), (⟨#[120]⟩ : ByteArray), (⟨#[44]⟩ : ByteArray), (⟨#[49]⟩ : ByteArray)] (by simp)
    have hts : t.size ≤ 1 := by
      simp only [List.mem_cons, List.not_mem_nil, or_false] at ht
      rcases ht with rfl | rfl | rfl | rfl | rfl | rfl | rfl <;> exact Nat.le_refl _
    have z1 := extract_size_le s 0 v.toNat
    have z2 := extract_size_le s v.toNat s.size
    refine ⟨((s.extract 0 v.toNat) ++ t) ++ (s.extract v.toNat s.size), p + 1 + 1 + 1, ?_, ?_, by omega, by omega⟩
    · unfold spec_l13Cut.f
      rw [hw]
      refine Ev.bind e (Ev.bind e' (Ev.ifp c0 (Ev.ifp v0 (Ev.ifp (by omega) (Ev.bind e2 ?_)))))
      refine Ev.ifp (by simp only; omega) (Ev.ifp (by simp only; rw [ByteArray.size_append]; omega) (Ev.now _))
    · rw [ByteArray.size_append, ByteArray.size_append]
      omega
  · by_cases c1 : u = 1
    · refine ⟨s.extract 0 v.toNat, p + 1 + 1, ?_, ?_, by omega, by omega⟩
      · unfold spec_l13Cut.f
        rw [hw]
        exact Ev.bind e (Ev.bind e' (Ev.ifn c0 (Ev.ifp c1 (Ev.ifp v0 (Ev.ifp (by omega) (Ev.now _))))))
      · have z1 := extract_size_le s 0 v.toNat
        omega
    · refine ⟨s, p + 1 + 1, ?_, by omega, by omega, by omega⟩
      unfold spec_l13Cut.f
      rw [hw]
      exact Ev.bind e (Ev.bind e' (Ev.ifn c0 (Ev.ifn c1 (Ev.now _))))
theorem DrawHexGet_ev (l : List Int) (hl : l.length ≤ maxLen) (h : ∀ x ∈ l, (Lit.int .u8 x).wf = true) : ∃ t : ByteArray, Ev (fun k => spec_DrawHexGet.f k l) t ∧ t.size ≤ 200 := by
  obtain ⟨c, hc, hC⟩ := open_eq l hl h
  obtain ⟨ns, q, e, h1, h2, h3, h4⟩ := l13Bytes_ev c hC 0 (by omega) (by omega)
  have hz := sON_size ns
  have hz2 : (strOfNums (hexN (strOfNums ns).data.toList)).size ≤ 24 := by
    rw [sON_size, hexN_len, Array.length_toList]
    have : (strOfNums ns).data.size = (strOfNums ns).size := rfl
    omega
  obtain ⟨t, q2, e2, h5, _, _⟩ := l13Cut_ev c hC q (by omega) (by omega) (strOfNums (hexN (strOfNums ns).data.toList)) (by omega)
  refine ⟨t, ?_, by omega⟩
  unfold spec_DrawHexGet.f
  rw [hc]
  simp only [Option.bind_some]
  exact Ev.bind e (Ev.bind (spec_Hex_ev _ (by simp only; omega)) (Ev.bind e2 (Ev.now _)))
theorem figV_dig {b : Int} (h : 48 ≤ b ∧ b ≤ 57) : figV b = b - 48 := if_pos h
theorem figV_let {b : Int} (h : 97 ≤ b ∧ b ≤ 102) : figV b = b - 87 := by unfold figV; rw [if_neg (by omega), if_pos h]
theorem figV_no {b : Int} (h1 : ¬ (48 ≤ b ∧ b ≤ 57)) (h2 : ¬ (97 ≤ b ∧ b ≤ 102)) : figV b = -1 := by unfold figV; rw [if_neg h1, if_neg h2]
theorem spec_l1Figure_ev (b : Int) (h : 0 ≤ b ∧ b < 256) : Ev (fun k => spec_l1Figure.f k b) (figV b) := by
  unfold spec_l1Figure.f
  by_cases c : b ≥ 48
  · refine Ev.ifp c ?_
    refine Ev.step (fun k => by rw [spec_l1Figure.j0]) ?_
    by_cases d : b ≤ 57
    · rw [figV_dig ⟨c, d⟩]
      exact Ev.ifp (decide_eq_true d) (Ev.some_ (by omega))
    · refine Ev.ifn (by simpa using d) ?_
      by_cases e : b ≥ 97
      · refine Ev.ifp e ?_
        by_cases f : b ≤ 102
        · rw [figV_let ⟨e, f⟩]
          exact Ev.ifp f (Ev.some_ (by omega))
        · rw [figV_no (by omega) (by omega)]
          exact Ev.ifn f (Ev.now _)
      · rw [figV_no (by omega) (by omega)]
        exact Ev.ifn e (Ev.now _)
  · refine Ev.ifn c ?_
    rw [figV_no (by omega) (by omega)]
    refine Ev.step (fun k => by rw [spec_l1Figure.j0]) ?_
    exact Ev.ifn (by decide) (Ev.ifn (by omega) (Ev.now _))
theorem spec_HexGet_ev (s : ByteArray) (hl : s.size ≤ 1048576) : Ev (fun k => spec_HexGet.f k s) (hexGetV s.data.toList []) := by
  have key : ∀ n i (acc : List Int), s.size - i ≤ n → i ≤ s.size → i % 2 = 0 → acc.length ≤ i → Ev (fun k => spec_HexGet.l0 k s acc (i : Int)) (hexGetV (s.data.toList.drop i) acc) := by
    intro n
    induction n with
    | zero =>
      intro i acc h0 h1 h2 h3
      refine Ev.step (fun k => by rw [spec_HexGet.l0]) ?_
      rw [wrap_succ (show i < 9223372036854775807 by omega), List.drop_eq_nil_of_le (by rw [← size_data']; omega), hexGetV]
      exact Ev.ifn (by omega) (Ev.ifn (by omega) (Ev.now _))
    | succ n ih =>
      intro i acc h0 h1 h2 h3
      refine Ev.step (fun k => by rw [spec_HexGet.l0]) ?_
      rw [wrap_succ (show i < 9223372036854775807 by omega)]
      by_cases c : i + 1 < s.size
      · obtain ⟨a, b, e1, e2, e3⟩ := drop_two s i c
        rw [e1, hexGetV, e2, e3]
        have ra := figV_lt (a.toNat : Int); have rb := figV_lt (b.toNat : Int)
        refine Ev.ifp (by omega) (Ev.ifp (by omega) (Ev.ifp (by omega) (Ev.bind (spec_l1Figure_ev _ (u8_range a)) (Ev.ifp (by omega) (Ev.bind (spec_l1Figure_ev _ (u8_range b)) ?_)))))
        by_cases p : figV (a.toNat : Int) < 0
        · rw [if_pos p]; exact Ev.ifp p (Ev.now _)
        · rw [if_neg p]
          refine Ev.ifn p ?_
          by_cases q : figV (b.toNat : Int) < 0
          · rw [if_pos q]; exact Ev.ifp q (Ev.now _)
          · rw [if_neg q]
            refine Ev.ifn q (Ev.ifp (by omega) ?_)
            have w1 : wrap64 (figV (a.toNat : Int) * 16) = 16 * figV (a.toNat : Int) := (wrap_in (by omega) (by omega)).trans (by omega)
            have w2 : wrap64 (16 * figV (a.toNat : Int) + figV (b.toNat : Int)) = 16 * figV (a.toNat : Int) + figV (b.toNat : Int) := wrap_in (by omega) (by omega)
            have w3 : wrap64 ((i : Int) + 2) = ((i + 2 : Nat) : Int) := (wrap_in (by omega) (by omega)).trans (by omega)
            rw [w1, w2, w3]
            exact ih (i + 2) _ (by omega) (by omega) (by omega) (by rw [List.length_append]; simp only [List.length_cons, List.length_nil]; omega)
      · refine Ev.ifn (by omega) ?_
        by_cases e : i = s.size
        · rw [List.drop_eq_nil_of_le (by rw [← size_data']; omega), hexGetV]
          exact Ev.ifn (by omega) (Ev.now _)
        · have e' : s.size = i + 1 := by omega
          rw [hexGetV_odd _ _ (by rw [List.length_drop, ← size_data']; omega)]
          exact Ev.ifp (by omega) (Ev.now _)
  unfold spec_HexGet.f
  exact key s.size 0 [] (by omega) (Nat.zero_le _) rfl (Nat.le_refl _)
theorem impl_HexGet_ev (s : ByteArray) (hl : s.size ≤ 1048576) : Ev (fun _ => impl_HexGet.f s) (hexGetV s.data.toList []) := by
  unfold impl_HexGet.f
  exact Ev.const (if_pos hl)

theorem FnHex_j1 (l1 : List Int) (hl : l1.length ≤ maxLen) (h : ∀ x ∈ l1, (Lit.int .u8 x).wf = true) : Ev (fun k => laws_FnHex.j1 k l1 false) true := by
  obtain ⟨t, et, ht⟩ := DrawHexGet_ev l1 hl h
  refine Ev.step (fun k => by rw [laws_FnHex.j1]) ?_
  refine Ev.ifn (by decide) (Ev.bind et (Ev.bind (impl_HexGet_ev t (by omega)) (Ev.bind (spec_HexGet_ev t (by omega)) (Ev.ifp rfl (Ev.ifp (by simp) ?_)))))
  obtain ⟨⟨y, ok⟩, hy⟩ : ∃ r, hexGetV t.data.toList [] = r := ⟨_, rfl⟩
  rw [hy]
  cases ok
  · exact Ev.ifn (by simp) (Ev.now _)
  · obtain ⟨ns, h1, h2, h3⟩ := get_back _ _ _ hy
    rw [List.nil_append] at h1
    have hz : y.size ≤ 1048576 := by
      rw [h1, sON_size]
      have h4 : t.data.toList.length = t.size := by rw [Array.length_toList]; rfl
      omega
    refine Ev.ifp rfl (Ev.bind (impl_Hex_ev y hz) (Ev.some_ ?_))
    have e : strOfNums (hexN y.data.toList) = t := by
      refine ba_ext ?_
      rw [sON_data, h1, sON_data]
      exact h2
    rw [e]
    simp
theorem FnHex : laws_FnHex.Pure := by
  intro l0 l1 hl0 _ h0 hl1 _ h1
  apply Ev.rounds
  unfold laws_FnHex.f
  by_cases c0 : (l0.length : Int) > 1048576
  · refine Ev.ifp c0 ?_
    refine Ev.step (fun k => by rw [laws_FnHex.j0]) ?_
    exact Ev.ifp rfl (Ev.now _)
  · refine Ev.ifn c0 ?_
    refine Ev.step (fun k => by rw [laws_FnHex.j0]) ?_
    by_cases c1 : (l1.length : Int) > 1048576
    · exact Ev.ifp (decide_eq_true c1) (Ev.now _)
    · refine Ev.ifn (by simpa using c1) ?_
      obtain ⟨ns, es, hs, hr⟩ := DrawHex_ev l0 hl0 h0
      have hz := sON_size ns
      have hz2 : (strOfNums (hexN (strOfNums ns).data.toList)).size = 2 * ns.length := by
        rw [sON_size, hexN_len, sON_data, List.length_map]
      refine Ev.bind es (Ev.bind (impl_Hex_ev _ (by omega)) (Ev.bind (impl_HexGet_ev _ (by omega)) (Ev.bind (spec_Hex_ev _ (by omega)) (Ev.ifp rfl ?_))))
      have eg : hexGetV (strOfNums (hexN (strOfNums ns).data.toList)).data.toList [] = (strOfNums ns, true) := by
        rw [sON_data (hexN _), get_hex, List.nil_append]
        refine congrArg (fun z => (z, true)) ?_
        refine ba_ext ?_
        rw [sON_data, List.map_map]
        have : (u8 ∘ fun c : UInt8 => (c.toNat : Int)) = id := by funext c; exact u8_of c
        rw [this, List.map_id]
      rw [eg]
      refine Ev.ifp rfl (Ev.ifp rfl ?_)
      have hw : wrap64 (2 * ((strOfNums ns).size : Int)) = 2 * ((strOfNums ns).size : Int) := wrap_in (by omega) (by omega)
      rw [hw, hz2, hz]
      have e : (((2 * ns.length : Nat) : Int) != 2 * (ns.length : Int)) = false := by rw [bne_eq_false_iff_eq]; omega
      rw [e]
      exact FnHex_j1 l1 hl1 h1

end Go.Proofs.Ytbeckinldcbhcaa.Pure
