-- Written by wip/tools/mk.py (this session's program, which runs the kit's print): functions, and proofs that the machine's calls do what they say.
import Derived.Test.YtipbllegjcedgaaQFnExactMatchesPutx0
namespace Go.Proofs.Ytipbllegjcedgaa.QFnExactMatchesPut
open Go.RowKit Go.Proofs.YtipbllegjcedgaaW.PrintWords Go.Proofs.YtipbllegjcedgaaW.PrintLast Go.Proofs.YtipbllegjcedgaaW.PrintMore
attribute [local go_sem] IntKind.wrap_u8 max2_int min2_int max_two min_two max_three min_three max_four min_four   -- for this text's walks alone
set_option linter.unusedVariables false
set_option linter.unusedSimpArgs false

/-! ### strings_Join: function 42 -/
def laid_lays156_ren : Go.Shelf.Ren := ⟨fun | 156 => 42 | 165 => 67 | 166 => 68 | 169 => 69 | 240 => 91 | 241 => 92 | 276 => 99 | 277 => 100 | n => n, fun | 31 => 65 | 9 => 9 | 3 => 3 | 4 => 4 | 0 => 0 | 20 => 20 | 72 => 94 | 76 => 98 | 70 => 92 | 37 => 31 | 75 => 97 | 127 => 122 | 164 => 133 | 5 => 5 | 80 => 100 | n => n, fun | n => n⟩
theorem laid_lays156 : Go.Proofs.Lays.n156 Try.prog laid_lays156_ren := {
  mixed := by kernel_rfl
  f156 := Try.func42.trans (congrArg some (by kernel_rfl))
  f165 := Try.func67.trans (congrArg some (by kernel_rfl))
  f166 := Try.func68.trans (congrArg some (by kernel_rfl))
  f169 := Try.func69.trans (congrArg some (by kernel_rfl))
  f240 := Try.func91.trans (congrArg some (by kernel_rfl))
  f241 := Try.func92.trans (congrArg some (by kernel_rfl))
  f276 := Try.func99.trans (congrArg some (by kernel_rfl))
  f277 := Try.func100.trans (congrArg some (by kernel_rfl))
  t0 := Try.underlying0
  a0 := Try.isAgg0
  z0 := Try.sizeOf0
  v0 := Try.zeroValue0
  t3 := Try.underlying3
  a3 := Try.isAgg3
  z3 := Try.sizeOf3
  v3 := Try.zeroValue3
  t4 := Try.underlying4
  a4 := Try.isAgg4
  z4 := Try.sizeOf4
  v4 := Try.zeroValue4
  t9 := Try.underlying9
  a9 := Try.isAgg9
  z9 := Try.sizeOf9
  v9 := Try.zeroValue9
  t20 := Try.underlying20
  a20 := Try.isAgg20
  z20 := Try.sizeOf20
  v20 := Try.zeroValue20
  t31 := Try.underlying65
  a31 := Try.isAgg65
  z31 := Try.sizeOf65
  v31 := Try.zeroValue65
  t37 := Try.underlying31
  a37 := Try.isAgg31
  z37 := Try.sizeOf31
  v37 := Try.zeroValue31
  t70 := Try.underlying92
  a70 := Try.isAgg92
  z70 := Try.sizeOf92
  v70 := Try.zeroValue92
  t72 := Try.underlying94
  a72 := Try.isAgg94
  z72 := Try.sizeOf94
  v72 := Try.zeroValue94
  t75 := Try.underlying97
  a75 := Try.isAgg97
  z75 := Try.sizeOf97
  v75 := Try.zeroValue97
  t76 := Try.underlying98
  a76 := Try.isAgg98
  z76 := Try.sizeOf98
  v76 := Try.zeroValue98
  t127 := Try.underlying122
  a127 := Try.isAgg122
  z127 := Try.sizeOf122
  v127 := Try.zeroValue122
  t164 := Try.underlying133
  a164 := Try.isAgg133
  z164 := Try.sizeOf133
  v164 := Try.zeroValue133 }
theorem laid_Builder_Extra_156 : Builder.Extra Try.prog laid_lays156_ren := {
  sizeBuilder := by kernel_rfl
  liesBuilder := by kernel_rfl
  t5 := Try.underlying5
  a5 := Try.isAgg5
  z5 := Try.sizeOf5
  v5 := Try.zeroValue5
  infoByte := by kernel_rfl
  cellsByte := by kernel_rfl
  sizeByte := by kernel_rfl
  neB5 := by decide }
theorem laid_strings_Join_none (a : Option Addr) (c : Nat) (sep : ByteArray) (w : World) :
    Calls Try.prog 42 #[.slice a 0 c, .string sep] w fun e w' => e = .returned (.string ⟨#[]⟩) ∧ w' = w := Any.strings_Join_none laid_lays156 laid_Builder_Extra_156 a c sep w
theorem laid_strings_Join (bk o c : Nat) (xs : List ByteArray) (sep : ByteArray) (w : World) (hcells : ∀ (j : Nat) x, xs[j]? = some x → w.cell? ⟨bk, o + j, none⟩ = some (.string x)) (hbk : bk < w.heap.size) (hN : xs.length ≤ 140737488355328) (hcap : xs.length ≤ c) (hlen : (Lib.join (xs.map (·.data.toList)) sep.data.toList).length ≤ 140737488355328) :
    Calls Try.prog 42 #[.slice (some ⟨bk, o, none⟩) xs.length c, .string sep] w fun e w' => e = .returned (.string ⟨(Lib.join (xs.map (·.data.toList)) sep.data.toList).toArray⟩) ∧ Below w.heap.size w w' := Any.strings_Join laid_lays156 laid_Builder_Extra_156 bk o c xs sep w hcells hbk hN hcap hlen
def joinV (l : List ByteArray) (sep : ByteArray) : ByteArray := ⟨(Go.Lib.join (l.map (·.data.toList)) sep.data.toList).toArray⟩
def strings_Join.f (l0 : List ByteArray) (a1 : ByteArray) : Option ByteArray := if l0.length ≤ 1048576 ∧ (Go.Lib.join (l0.map (·.data.toList)) a1.data.toList).length ≤ 140737488355328 then some (joinV l0 a1) else none
theorem spot_none {w : World} {a : Addr} {v : Value} (h : w.cell? a = some v) : a.spot = none := by
  unfold World.cell? at h
  split at h
  · split at h
    · cases h
    · rename_i hs
      simpa using hs
  · cases h
theorem strings_Join.calls (A0 : Option Addr) (c0 : Nat) (l0 : List ByteArray) (a1 : ByteArray) (r : ByteArray) (w : World) (hr0 : Kd.C Kd.string w A0 l0.length l0) (hc0 : l0.length ≤ c0) (h : strings_Join.f l0 a1 = some r) :
    Calls Try.prog 42 #[.slice A0 l0.length c0, .string a1] w fun e w' => e = .returned (.string r) ∧ Below w.heap.size w w' := by
  unfold strings_Join.f at h
  split at h
  case isFalse => cases h
  case isTrue hs =>
  have hr := Option.some.inj h
  by_cases h0 : l0.length = 0
  · have e : l0 = [] := List.eq_nil_of_length_eq_zero h0
    subst e
    refine (laid_strings_Join_none A0 c0 a1 w).mono ?_
    rintro e w' ⟨rfl, rfl⟩
    exact ⟨by rw [← hr]; rfl, Below.refl _ _⟩
  · obtain ⟨ad, rfl, hcell⟩ := hr0.2.2 (by omega)
    have hc : ∀ j x, l0[j]? = some x → w.cell? (ad.add j) = some (.string x) := fun j x hx => by
      obtain ⟨c, _, hR, hcc⟩ := hcell j x hx
      have hR' : c = [.string x] := hR
      subst hR'
      have h_ := hcc 0 _ rfl
      have e_ : j * Kd.string.sz + 0 = j := Nat.mul_one j
      rwa [e_] at h_
    have h00 := hc 0 _ (List.getElem?_eq_getElem (show 0 < l0.length by omega))
    have hsp : ad.spot = none := spot_none (a := ad.add 0) h00
    have hbk : ad.block < w.heap.size := World.block_lt_of_cell? w _ h00
    obtain ⟨bk, o, sp⟩ := ad
    simp only at hsp
    subst hsp
    refine (laid_strings_Join bk o c0 l0 a1 w (fun j x hx => by have h_ := hc j x hx; unfold Addr.add at h_; split at h_; (rename_i e_; subst e_; exact h_); exact h_) hbk (by omega) hc0 hs.2).mono ?_
    rintro e w' ⟨rfl, hb⟩
    exact ⟨by rw [← hr]; rfl, hb⟩

/-! ### impl_isLetters: function 88 -/
def impl_isLetters.f (a0 : ByteArray) (a1 : Int) : Option Bool := if a0.size < 9223372036854775807 then some (lettersB a0 a1) else none
set_option maxHeartbeats 1000000 in
set_option maxRecDepth 100000 in
theorem impl_isLetters.calls (a0 : ByteArray) (a1 : Int) (r : Bool) (w : World) (h : impl_isLetters.f a0 a1 = some r) :
    Calls Try.prog 88 #[.string a0, .int .i64 a1] w fun e w' => e = .returned (.bool r) ∧ Drawn0 w w' := by
  unfold impl_isLetters.f at h
  split at h
  case isFalse => cases h
  case isTrue hs =>
  have hr := Aside0.mk (Option.some.inj h).symm
  clear h
  go_enter Try.func88, Try.ntmps88
  go_wp2
  go_loop [8] (fun v => ∃ k : Nat, k ≤ a0.size ∧ v = .int .i64 k ∧ Aside0 ((a0.data.toList.take k).all isL = true)) (fun v => a0.size - (intOf v).toNat)
  case atStart => exact ⟨0, Nat.zero_le _, rfl, ⟨rfl⟩⟩
  case round =>
    obtain ⟨k, hk, rfl, HA⟩ := hrel
    have e : (k : Int).toNat = k := by omega
    by_cases hlt : k < a0.size
    · have c0 : decide ((k : Int) < (a0.size : Int)) = true := decide_eq_true (by omega)
      have p : (0 ≤ (k : Int)) = True := eq_true (by omega)
      have q : ((k : Int) < (a0.size : Int)) = True := eq_true (by omega)
      have hx : ∀ h : k < a0.size, ((a0[k]'h).toNat : Int) = bt a0 (k : Int) := fun h => (letters_bt a0 k h).symm
      have hn := fun hb => letters_no a0 k hlt hb a1
      have hy := fun hb => letters_step a0 k hlt HA.out hb
      have Hn := Aside0.mk hn
      have Hy := Aside0.mk hy
      clear hn hy e
      by_cases c1 : bt a0 (k : Int) < 97
      · have c1b : decide (bt a0 (k : Int) < 97) = true := decide_eq_true c1
        have C1 := Aside0.mk c1
        clear c1
        go_wp2
        go_ret
        exact ⟨by rw [hr.out, Hn.out (by have := C1.out; omega)]; rfl, Drawn0.refl _⟩
      · have c1b : decide (bt a0 (k : Int) < 97) = false := decide_eq_false c1
        have C1 := Aside0.mk c1
        clear c1
        by_cases c2 : 122 < bt a0 (k : Int)
        · have c2b : decide (122 < bt a0 (k : Int)) = true := decide_eq_true c2
          have C2 := Aside0.mk c2
          clear c2
          go_wp2
          go_ret
          exact ⟨by rw [hr.out, Hn.out (by have := C2.out; omega)]; rfl, Drawn0.refl _⟩
        · have c2b : decide (122 < bt a0 (k : Int)) = false := decide_eq_false c2
          have C2 := Aside0.mk c2
          clear c2
          go_wp2
          go_round
          case rel => exact ⟨k + 1, by omega, by go_num, ⟨Hy.out (by have := C1.out; have := C2.out; omega)⟩⟩
          case measure => simp [intOf]; omega
    · have c0 : decide ((k : Int) < (a0.size : Int)) = false := decide_eq_false (by omega)
      have hk' : k = a0.size := by omega
      have HE := Aside0.mk (letters_end a0 (by rw [← hk']; exact HA.out) a1)
      clear hk' e
      go_wp2
      go_ret
      exact ⟨by rw [hr.out, HE.out]; rfl, Drawn0.refl _⟩

/-! ### impl_isName: function 63 -/
def impl_isName.f (a0 : ByteArray) : Option Bool := if a0.size < 9223372036854775807 then some (lettersB a0 6 && (a0.toList != [])) else none
set_option maxHeartbeats 1000000 in
set_option maxRecDepth 100000 in
theorem impl_isName.calls (a0 : ByteArray) (r : Bool) (w : World) (h : impl_isName.f a0 = some r) :
    Calls Try.prog 63 #[.string a0] w fun e w' => e = .returned (.bool r) ∧ Drawn0 w w' := by
  unfold impl_isName.f at h
  split at h
  case isFalse => cases h
  case isTrue hs =>
  have hr := Aside0.mk (Option.some.inj h).symm
  clear h
  have hc : ∀ w, Calls Try.prog 88 #[.string a0, .int .i64 6] w fun e w' => e = .returned (.bool (lettersB a0 6)) ∧ Drawn0 w w' := fun w => impl_isLetters.calls a0 6 _ w (by unfold impl_isLetters.f; rw [if_pos hs])
  have HC := Aside0.mk hc
  clear hc
  by_cases c : a0.toList = ([] : List UInt8)
  · have ca : (a0.toList != ([] : List UInt8)) = false := bne_eq_false_iff_eq.mpr c
    have cb : (a0.toList == ([] : List UInt8)) = true := beq_iff_eq.mpr c
    have C := Aside0.mk ca
    clear c
    go_enter Try.func63, Try.ntmps63
    go_wp2_with (go_at_call 88; refine (HC.out _).mono ?_; rintro e w' ⟨rfl, ⟨nd, rfl⟩⟩)
    go_ret
    exact ⟨by rw [hr.out, C.out, Bool.and_false]; rfl, Drawn0.refl _⟩
  · have ca : (a0.toList != ([] : List UInt8)) = true := bne_iff_ne.mpr c
    have cb : (a0.toList == ([] : List UInt8)) = false := beq_eq_false_iff_ne.mpr c
    have C := Aside0.mk ca
    clear c
    go_enter Try.func63, Try.ntmps63
    go_wp2_with (go_at_call 88; refine (HC.out _).mono ?_; rintro e w' ⟨rfl, ⟨nd, rfl⟩⟩)
    go_ret
    exact ⟨by rw [hr.out, C.out, Bool.and_true]; rfl, ⟨⟨_, rfl⟩⟩⟩

/-! ### impl_isWord: function 64 -/
def impl_isWord.f (a0 : ByteArray) : Option Bool := if a0.size < 9223372036854775807 then some (lettersB a0 8) else none
set_option maxHeartbeats 1000000 in
set_option maxRecDepth 100000 in
theorem impl_isWord.calls (a0 : ByteArray) (r : Bool) (w : World) (h : impl_isWord.f a0 = some r) :
    Calls Try.prog 64 #[.string a0] w fun e w' => e = .returned (.bool r) ∧ Drawn0 w w' := by
  unfold impl_isWord.f at h
  split at h
  case isFalse => cases h
  case isTrue hs =>
  have hr := Aside0.mk (Option.some.inj h).symm
  clear h
  have hc : ∀ w, Calls Try.prog 88 #[.string a0, .int .i64 8] w fun e w' => e = .returned (.bool (lettersB a0 8)) ∧ Drawn0 w w' := fun w => impl_isLetters.calls a0 8 _ w (by unfold impl_isLetters.f; rw [if_pos hs])
  have HC := Aside0.mk hc
  clear hc
  go_enter Try.func64, Try.ntmps64
  go_wp2_with (go_at_call 88; refine (HC.out _).mono ?_; rintro e w' ⟨rfl, ⟨nd, rfl⟩⟩)
  go_ret
  exact ⟨by rw [hr.out]; rfl, ⟨⟨_, rfl⟩⟩⟩

/-! ### impl_Match: function 74 -/
set_option maxHeartbeats 2000000 in
set_option maxRecDepth 100000 in
theorem indexMatch.calls (g : Nat) (cap : Array Value) (fn : Func) (hf : Try.prog.funcs[g]? = some fn) (hname : (fn.name == "runtime.NumGoroutine") = false) (hbody : fn.body.isSome = true) (P : Mch → Bool)
    (A0 : Option Addr) (c0 : Nat) (l0 : List Mch) (w : World) (hg : ∀ x ∈ l0, ∀ (W : World), Below w.heap.size w W → Calls Try.prog g (#[mchA x] ++ cap) W fun e w' => e = .returned (.bool (P x)) ∧ Below W.heap.size W w')
    (hr0 : Kd.C k48 w A0 l0.length l0) (hc0 : l0.length ≤ c0) (hN : l0.length < 9223372036854775807) :
    Calls Try.prog 93 #[.slice A0 l0.length c0, .func (.func g) #[] cap] w fun e w' => (∃ j : Int, e = .returned (.int .i64 j) ∧ decide (0 ≤ j) = l0.any P) ∧ Below w.heap.size w w' := by
  obtain ⟨r, hr⟩ : ∃ r, l0.any P = r := ⟨_, rfl⟩
  rw [hr]
  have HR := Aside0.mk hr
  have HG := Aside0.mk hg
  have HF := Aside0.mk hf
  have HNM := Aside0.mk hname
  have HY := Aside0.mk hbody
  have HR0 := Aside0.mk hr0
  have hu := Try.underlying48
  clear hr hg hf hname hbody hr0 hc0
  go_enter Try.func93, Try.ntmps93
  go_wp2
  go_loopw [8] (fun v wr => ∃ k : Nat, k ≤ l0.length ∧ v = .int .i64 k ∧ Aside0 (r = (l0.drop k).any P) ∧ Aside0 (Below w.heap.size w wr)) (fun v _ => l0.length - (intOf v).toNat)
  case atStart => exact ⟨0, Nat.zero_le _, rfl, ⟨by rw [List.drop_zero]; exact HR.out.symm⟩, ⟨Below.refl _ _⟩⟩
  case round =>
    clear HR
    obtain ⟨k, hk, rfl, HA, HD⟩ := hrel
    by_cases hlt : k < l0.length
    · have c0b : decide ((k : Int) < (l0.length : Int)) = true := decide_eq_true (by omega)
      obtain ⟨ad, e, hx0, hx1, hx2⟩ := at_T48 HR0.out (k : Int) (by omega) (by omega)
      cases e
      have e1 : (k : Int).toNat = k := by omega
      have e2 : rd_T48 l0 (k : Int) = l0.getD k z48 := by unfold rd_T48; rw [e1]
      rw [e1, e2] at hx0 hx1 hx2
      replace hx0 := (HD.out.cell (World.block_lt_of_cell? w _ hx0)).trans hx0
      replace hx1 := (HD.out.cell (World.block_lt_of_cell? w _ hx1)).trans hx1
      replace hx2 := (HD.out.cell (World.block_lt_of_cell? w _ hx2)).trans hx2
      have hmem : l0.getD k z48 ∈ l0 := by simp [List.getD, hlt]
      have E := Aside0.mk (any_step P l0 z48 k hlt)
      have HM := Aside0.mk hmem
      clear e1 e2 hmem
      obtain ⟨x, hx⟩ : ∃ x, l0.getD k z48 = x := ⟨_, rfl⟩
      rw [hx] at hx0 hx1 hx2 E HM
      clear hx
      have p : (0 ≤ (k : Int)) = True := eq_true (by omega)
      have q : ((k : Int) < (l0.length : Int)) = True := eq_true (by omega)
      cases hP : P x
      · have HP := Aside0.mk hP
        clear hP
        go_wp2_with (refine goesV_ (some 16) rfl rfl rfl rfl HF.out HNM.out HY.out (#[mchA x] ++ cap) (by simp only [List.map_toArray, List.map_cons, List.map_nil]; rfl) ?_; refine (HG.out x HM.out _ HD.out).mono ?_; rintro e w' ⟨rfl, hb⟩; rw [HP.out]; refine ⟨_, rfl, ?_⟩; have HB := Aside0.mk hb; clear hb)
        go_roundw
        case rel => exact ⟨k + 1, by omega, by go_num, ⟨by rw [HA.out, E.out, HP.out]; rfl⟩, ⟨below_step HD.out HB.out⟩⟩
        case measure => simp [intOf]; omega
      · have HP := Aside0.mk hP
        clear hP
        go_wp2_with (refine goesV_ (some 16) rfl rfl rfl rfl HF.out HNM.out HY.out (#[mchA x] ++ cap) (by simp only [List.map_toArray, List.map_cons, List.map_nil]; rfl) ?_; refine (HG.out x HM.out _ HD.out).mono ?_; rintro e w' ⟨rfl, hb⟩; rw [HP.out]; refine ⟨_, rfl, ?_⟩; have HB := Aside0.mk hb; clear hb)
        go_ret
        exact ⟨⟨_, rfl, by rw [HA.out, E.out, HP.out]; simp⟩, below_step HD.out HB.out⟩
    · have c0b : decide ((k : Int) < (l0.length : Int)) = false := decide_eq_false (by omega)
      have E := Aside0.mk (show (l0.drop k).any P = false by rw [List.drop_eq_nil_of_le (by omega)]; rfl)
      go_wp2
      go_ret
      exact ⟨⟨_, rfl, by rw [HA.out, E.out]; rfl⟩, HD.out⟩
set_option maxHeartbeats 2000000 in
set_option maxRecDepth 100000 in
theorem containsMatch.calls (g : Nat) (cap : Array Value) (fn : Func) (hf : Try.prog.funcs[g]? = some fn) (hname : (fn.name == "runtime.NumGoroutine") = false) (hbody : fn.body.isSome = true) (P : Mch → Bool)
    (A0 : Option Addr) (c0 : Nat) (l0 : List Mch) (w : World) (hg : ∀ x ∈ l0, ∀ (W : World), Below w.heap.size w W → Calls Try.prog g (#[mchA x] ++ cap) W fun e w' => e = .returned (.bool (P x)) ∧ Below W.heap.size W w')
    (hr0 : Kd.C k48 w A0 l0.length l0) (hc0 : l0.length ≤ c0) (hN : l0.length < 9223372036854775807) :
    Calls Try.prog 74 #[.slice A0 l0.length c0, .func (.func g) #[] cap] w fun e w' => e = .returned (.bool (l0.any P)) ∧ Below w.heap.size w w' := by
  have C := Aside0.mk (indexMatch.calls g cap fn hf hname hbody P A0 c0 l0 w hg hr0 hc0 hN)
  clear hg hf hname hbody hr0
  obtain ⟨r, hr⟩ : ∃ r, l0.any P = r := ⟨_, rfl⟩
  obtain ⟨n0, hn0⟩ : ∃ n, l0.length = n := ⟨_, rfl⟩
  rw [hr, hn0] at C
  rw [hr, hn0]
  clear hr hn0 hc0 hN
  go_enter Try.func74, Try.ntmps74
  go_wp2_with (refine goesL_ (some 7) rfl rfl Try.func93 (by kernel_rfl) rfl #[.slice A0 n0 c0, .func (.func g) #[] cap] rfl (by simp only [List.map_toArray, List.map_cons, List.map_nil]; rfl) ?_; refine C.out.mono ?_; rintro e w' ⟨⟨j, rfl, hj⟩, hb⟩; refine ⟨_, rfl, ?_⟩)
  go_ret
  exact ⟨rfl, hb⟩

/-! ### impl_lettingOf: function 76 -/
def impl_lettingOf.f : Unit := ()
set_option maxHeartbeats 2000000 in
set_option maxRecDepth 100000 in
theorem impl_lettingOf.calls (a : Int) (b c : ByteArray) (w : World) : Calls Try.prog 76 #[.agg #[.int .i64 a, .string b, .string c]] w fun e w' => e = .returned (letV a c) ∧ Below w.heap.size w w' := by
  obtain ⟨v, hv⟩ : ∃ v, letV a c = v := ⟨_, rfl⟩
  rw [hv]
  have HV := Aside0.mk hv
  clear hv
  have hu := Try.underlying48
  by_cases h1 : a = 1
  · have c1 : (a == 1) = true := beq_iff_eq.mpr h1
    have E := Aside0.mk (show letV a c = .iface 125 (.agg #[.string c]) by unfold letV; rw [if_pos h1])
    clear h1
    go_enter Try.func76, Try.ntmps76
    go_wp2
    go_ret
    exact ⟨by rw [← HV.out, E.out]; rfl, (Below.refl _ _).alloc (Nat.le_refl _) _⟩
  have c1 : (a == 1) = false := beq_eq_false_iff_ne.mpr h1
  by_cases h2 : a = 2
  · have c2 : (a == 2) = true := beq_iff_eq.mpr h2
    have E := Aside0.mk (show letV a c = .iface 126 (.agg #[.string c]) by unfold letV; rw [if_neg h1, if_pos h2])
    clear h1 h2
    go_enter Try.func76, Try.ntmps76
    go_wp2
    go_ret
    exact ⟨by rw [← HV.out, E.out]; rfl, (Below.refl _ _).alloc (Nat.le_refl _) _⟩
  have c2 : (a == 2) = false := beq_eq_false_iff_ne.mpr h2
  by_cases h3 : a = 3
  · have c3 : (a == 3) = true := beq_iff_eq.mpr h3
    have E := Aside0.mk (show letV a c = .iface 127 (.agg #[.string c]) by unfold letV; rw [if_neg h1, if_neg h2, if_pos h3])
    clear h1 h2 h3
    go_enter Try.func76, Try.ntmps76
    go_wp2
    go_ret
    exact ⟨by rw [← HV.out, E.out]; rfl, (Below.refl _ _).alloc (Nat.le_refl _) _⟩
  have c3 : (a == 3) = false := beq_eq_false_iff_ne.mpr h3
  by_cases h4 : a = 4
  · have c4 : (a == 4) = true := beq_iff_eq.mpr h4
    have E := Aside0.mk (show letV a c = .iface 128 (.agg #[.string c]) by unfold letV; rw [if_neg h1, if_neg h2, if_neg h3, if_pos h4])
    clear h1 h2 h3 h4
    go_enter Try.func76, Try.ntmps76
    go_wp2
    go_ret
    exact ⟨by rw [← HV.out, E.out]; rfl, (Below.refl _ _).alloc (Nat.le_refl _) _⟩
  have c4 : (a == 4) = false := beq_eq_false_iff_ne.mpr h4
  have E := Aside0.mk (show letV a c = .nilIface by unfold letV; rw [if_neg h1, if_neg h2, if_neg h3, if_neg h4])
  clear h1 h2 h3 h4
  go_enter Try.func76, Try.ntmps76
  go_wp2
  go_ret
  exact ⟨by rw [← HV.out, E.out]; rfl, (Below.refl _ _).alloc (Nat.le_refl _) _⟩

/-! ### impl_MatchesOk: function 52 -/
theorem letV_some (k : Int) (c : ByteArray) (h : 1 ≤ k ∧ k ≤ 4) : ∃ t v, letV k c = .iface t v := by
  unfold letV
  by_cases h1 : k = 1
  · exact ⟨_, _, if_pos h1⟩
  rw [if_neg h1]
  by_cases h2 : k = 2
  · exact ⟨_, _, if_pos h2⟩
  rw [if_neg h2]
  by_cases h3 : k = 3
  · exact ⟨_, _, if_pos h3⟩
  rw [if_neg h3, if_pos (by omega)]
  exact ⟨_, _, rfl⟩
theorem letV_none (k : Int) (c : ByteArray) (h : ¬ (1 ≤ k ∧ k ≤ 4)) : letV k c = .nilIface := by
  unfold letV
  rw [if_neg (by omega), if_neg (by omega), if_neg (by omega), if_neg (by omega)]
def impl_MatchesOk.f (l0 : List Mch) : Option Bool := if bdM l0 = true then some (mchsB l0) else none
set_option maxHeartbeats 2000000 in
set_option maxRecDepth 100000 in
theorem badMatch.calls (x : Mch) (h1 : x.f1.size < 9223372036854775807) (h2 : x.f2.size < 9223372036854775807) (w : World) : Calls Try.prog 75 #[mchA x] w fun e w' => e = .returned (.bool (!mchB x)) ∧ Below w.heap.size w w' := by
  obtain ⟨kd, nm, wd⟩ := x
  have hu := Try.underlying48
  have c1 : ∀ (b : Bool), (lettersB nm 6 && (nm.toList != [])) = b → ∀ w, Calls Try.prog 63 #[.string nm] w fun e w' => e = .returned (.bool b) ∧ Drawn0 w w' := fun b hb' w => impl_isName.calls nm b w (by unfold impl_isName.f; rw [if_pos h1, hb'])
  have c2 : ∀ (b : Bool), lettersB wd 8 = b → ∀ w, Calls Try.prog 64 #[.string wd] w fun e w' => e = .returned (.bool b) ∧ Drawn0 w w' := fun b hb' w => impl_isWord.calls wd b w (by unfold impl_isWord.f; rw [if_pos h2, hb'])
  have hm : mchB ⟨kd, nm, wd⟩ = ((decide (1 ≤ kd) && decide (kd ≤ 4)) && (lettersB nm 6 && (nm.toList != [])) && lettersB wd 8) := rfl
  rw [hm]
  show Calls Try.prog 75 #[.agg #[.int .i64 kd, .string nm, .string wd]] w _
  have hL : ∀ w, Calls Try.prog 76 #[.agg #[.int .i64 kd, .string nm, .string wd]] w fun e w' => e = .returned (letV kd wd) ∧ Below w.heap.size w w' := fun w => impl_lettingOf.calls kd nm wd w
  clear h1 h2 hm
  obtain ⟨r, hr⟩ : ∃ r, (!((decide (1 ≤ kd) && decide (kd ≤ 4)) && (lettersB nm 6 && (nm.toList != [])) && lettersB wd 8)) = r := ⟨_, rfl⟩
  rw [hr]
  have HR := Aside0.mk hr
  clear hr
  by_cases hk : 1 ≤ kd ∧ kd ≤ 4
  · have K1 := Aside0.mk (show (decide (1 ≤ kd) && decide (kd ≤ 4)) = true by rw [decide_eq_true hk.1, decide_eq_true hk.2]; rfl)
    obtain ⟨t, v, e⟩ := letV_some kd wd hk
    rw [e] at hL
    have CL := Aside0.mk hL
    clear hL e hk
    cases b1 : (lettersB nm 6 && (nm.toList != []))
    · have C1 := Aside0.mk (c1 false b1)
      have B1 := Aside0.mk b1
      clear c1 c2 b1
      go_enter Try.func75, Try.ntmps75
      go_wp2_with (first | (go_at_call 76; refine (CL.out _).mono ?_; rintro e w' ⟨rfl, hb⟩; have b_ := blk_below (blk_new w (Obj.cells #[.int .i64 kd, .string nm, .string wd] 48)) hb; have d1 : w'.cell? ⟨w.heap.size, 1, none⟩ = some (.string nm) := blk_cell b_ 1; have d2 : w'.cell? ⟨w.heap.size, 2, none⟩ = some (.string wd) := blk_cell b_ 2; have HB := Aside0.mk (below_step ((Below.refl _ w).alloc (Nat.le_refl _) _) hb); clear hb b_) | (go_at_call 63; refine (C1.out _).mono ?_; rintro e w'' ⟨rfl, ⟨nd, rfl⟩⟩))
      go_ret
      exact ⟨by rw [← HR.out, K1.out, B1.out]; rfl, by first | exact HB.out | exact pw_below_drewN HB.out _⟩
    · have C1 := Aside0.mk (c1 true b1)
      have B1 := Aside0.mk b1
      clear c1 b1
      cases b2 : lettersB wd 8
      · have C2 := Aside0.mk (c2 false b2)
        have B2 := Aside0.mk b2
        clear c2 b2
        go_enter Try.func75, Try.ntmps75
        go_wp2_with (first | (go_at_call 76; refine (CL.out _).mono ?_; rintro e w' ⟨rfl, hb⟩; have b_ := blk_below (blk_new w (Obj.cells #[.int .i64 kd, .string nm, .string wd] 48)) hb; have d1 : w'.cell? ⟨w.heap.size, 1, none⟩ = some (.string nm) := blk_cell b_ 1; have d2 : w'.cell? ⟨w.heap.size, 2, none⟩ = some (.string wd) := blk_cell b_ 2; have HB := Aside0.mk (below_step ((Below.refl _ w).alloc (Nat.le_refl _) _) hb); clear hb b_) | (go_at_call 63; refine (C1.out _).mono ?_; rintro e w'' ⟨rfl, ⟨nd, rfl⟩⟩) | (go_at_call 64; refine (C2.out _).mono ?_; rintro e w'' ⟨rfl, ⟨nd2, rfl⟩⟩))
        go_ret
        exact ⟨by rw [← HR.out, K1.out, B1.out, B2.out]; rfl, by first | exact HB.out | exact pw_below_drewN HB.out _⟩
      · have C2 := Aside0.mk (c2 true b2)
        have B2 := Aside0.mk b2
        clear c2 b2
        go_enter Try.func75, Try.ntmps75
        go_wp2_with (first | (go_at_call 76; refine (CL.out _).mono ?_; rintro e w' ⟨rfl, hb⟩; have b_ := blk_below (blk_new w (Obj.cells #[.int .i64 kd, .string nm, .string wd] 48)) hb; have d1 : w'.cell? ⟨w.heap.size, 1, none⟩ = some (.string nm) := blk_cell b_ 1; have d2 : w'.cell? ⟨w.heap.size, 2, none⟩ = some (.string wd) := blk_cell b_ 2; have HB := Aside0.mk (below_step ((Below.refl _ w).alloc (Nat.le_refl _) _) hb); clear hb b_) | (go_at_call 63; refine (C1.out _).mono ?_; rintro e w'' ⟨rfl, ⟨nd, rfl⟩⟩) | (go_at_call 64; refine (C2.out _).mono ?_; rintro e w'' ⟨rfl, ⟨nd2, rfl⟩⟩))
        go_ret
        exact ⟨by rw [← HR.out, K1.out, B1.out, B2.out]; rfl, by first | exact HB.out | exact pw_below_drewN HB.out _⟩
  · have K1 := Aside0.mk (show (decide (1 ≤ kd) && decide (kd ≤ 4)) = false by
      by_cases h1 : 1 ≤ kd
      · rw [decide_eq_true h1, decide_eq_false (by omega)]; rfl
      · rw [decide_eq_false h1]; rfl)
    rw [letV_none kd wd hk] at hL
    have CL := Aside0.mk hL
    clear hL hk c1 c2
    go_enter Try.func75, Try.ntmps75
    go_wp2_with (go_at_call 76; refine (CL.out _).mono ?_; rintro e w' ⟨rfl, hb⟩; have b_ := blk_below (blk_new w (Obj.cells #[.int .i64 kd, .string nm, .string wd] 48)) hb; have d1 : w'.cell? ⟨w.heap.size, 1, none⟩ = some (.string nm) := blk_cell b_ 1; have d2 : w'.cell? ⟨w.heap.size, 2, none⟩ = some (.string wd) := blk_cell b_ 2; have HB := Aside0.mk (below_step ((Below.refl _ w).alloc (Nat.le_refl _) _) hb); clear hb b_)
    go_ret
    exact ⟨by rw [← HR.out, K1.out]; rfl, by first | exact HB.out | exact pw_below_drewN HB.out _⟩
set_option maxHeartbeats 2000000 in
set_option maxRecDepth 100000 in
theorem impl_MatchesOk.calls (A0 : Option Addr) (c0 : Nat) (l0 : List Mch) (r : Bool) (w : World) (hr0 : Kd.C k48 w A0 l0.length l0) (hc0 : l0.length ≤ c0) (h : impl_MatchesOk.f l0 = some r) :
    Calls Try.prog 52 #[.slice A0 l0.length c0] w fun e w' => e = .returned (.bool r) ∧ Below w.heap.size w w' := by
  unfold impl_MatchesOk.f at h
  split at h
  case isFalse => cases h
  case isTrue hs =>
  have hr := Aside0.mk (Option.some.inj h).symm
  clear h
  have hN := bdM_len hs
  have C := Aside0.mk (fun W (hB : Below w.heap.size w W) => containsMatch.calls 75 #[] Try.f75 Try.func75 (by kernel_rfl) (by kernel_rfl) (fun x => !mchB x) A0 c0 l0 W (fun x hx W' _ => badMatch.calls x (bdM_at hs hx).1 (bdM_at hs hx).2 W') (Kd.C_below hr0 hB) hc0 hN)
  clear hr0 hs
  have E := Aside0.mk (show mchsB l0 = (decide (l0.length ≤ 4) && !(l0.any fun x => !mchB x)) by unfold mchsB; rw [← List.all_eq_not_any_not])
  obtain ⟨q, hq⟩ : ∃ q, (l0.any fun x => !mchB x) = q := ⟨_, rfl⟩
  obtain ⟨n0, hn0⟩ : ∃ n, l0.length = n := ⟨_, rfl⟩
  rw [hq, hn0] at C E
  rw [hn0]
  clear hn0 hq hc0 hN
  by_cases hlt : n0 ≤ 4
  · have c1 : decide ((n0 : Int) ≤ 4) = true := decide_eq_true (by omega)
    have c2 : decide (n0 ≤ 4) = true := decide_eq_true hlt
    have L := Aside0.mk c2
    clear hlt
    go_enter Try.func52, Try.ntmps52
    go_wp2_with (go_at_call 74; refine (C.out _ (Below.refl _ _)).mono ?_; rintro e w' ⟨rfl, hb⟩)
    go_ret
    exact ⟨by rw [hr.out, E.out, L.out]; rfl, hb⟩
  · have c1 : decide ((n0 : Int) ≤ 4) = false := decide_eq_false (by omega)
    have c2 : decide (n0 ≤ 4) = false := decide_eq_false hlt
    have L := Aside0.mk c2
    clear hlt
    go_enter Try.func52, Try.ntmps52
    go_wp2
    go_ret
    exact ⟨by rw [hr.out, E.out, L.out]; rfl, Below.refl _ _⟩

/-! ### impl_MatchesPut: function 24 -/
def impl_MatchesPut.l0 : Nat → List ByteArray → List (S48) → Int → Int → Option (ByteArray)
  | 0, _, _, _, _ => none
  | k + 1, x3, x9, x10, x11 => if x11 < x10 then (if 0 ≤ x11 then (if x11 < (x9.length : Int) then (if 0 ≤ ((rd_T48 x9 x11).f0) then (if ((rd_T48 x9 x11).f0) ≤ (wrap64 (((rd_T48 x9 x11).f0) + 1)) then (if (wrap64 (((rd_T48 x9 x11).f0) + 1)) ≤ 5 then (if ((rd_T48 x9 x11).f1).size + ((⟨#[32, 61, 33, 94, 126]⟩ : ByteArray).extract (((rd_T48 x9 x11).f0) : Int).toNat ((wrap64 (((rd_T48 x9 x11).f0) + 1)) : Int).toNat).size ≤ 9223372036854775807 then (if (((rd_T48 x9 x11).f1) ++ ((⟨#[32, 61, 33, 94, 126]⟩ : ByteArray).extract (((rd_T48 x9 x11).f0) : Int).toNat ((wrap64 (((rd_T48 x9 x11).f0) + 1)) : Int).toNat)).size + ((rd_T48 x9 x11).f2).size ≤ 9223372036854775807 then (if x3.length < 8796093022208 then (impl_MatchesPut.l0 k (x3 ++ [(((rd_T48 x9 x11).f1) ++ ((⟨#[32, 61, 33, 94, 126]⟩ : ByteArray).extract (((rd_T48 x9 x11).f0) : Int).toNat ((wrap64 (((rd_T48 x9 x11).f0) + 1)) : Int).toNat)) ++ ((rd_T48 x9 x11).f2)]) x9 x10 (wrap64 (x11 + 1))) else (none)) else (none)) else (none)) else (none)) else (none)) else (none)) else (none)) else (none)) else ((strings_Join.f x3 (⟨#[44]⟩ : ByteArray)).bind fun t137 => (if 1 + t137.size ≤ 9223372036854775807 then (if ((⟨#[91]⟩ : ByteArray) ++ t137).size + 1 ≤ 9223372036854775807 then (some (((⟨#[91]⟩ : ByteArray) ++ t137) ++ (⟨#[93]⟩ : ByteArray))) else (none)) else (none)))
def impl_MatchesPut.f (k : Nat) (l0 : List (S48)) : Option (ByteArray) := (impl_MatchesOk.f l0).bind fun t131 => (if t131 = true then (impl_MatchesPut.l0 k ([] : List ByteArray) l0 (l0.length : Int) 0) else (some (⟨#[]⟩ : ByteArray)))
theorem impl_MatchesPut.mono_l : ∀ k, (∀ y0 y1 y2 y3, LeO (impl_MatchesPut.l0 k y0 y1 y2 y3) (impl_MatchesPut.l0 (k + 1) y0 y1 y2 y3))
  | 0 => fun _ _ _ _ r h => by simp [impl_MatchesPut.l0] at h
  | k + 1 => by
    have ih0 := impl_MatchesPut.mono_l k
    · intro y0 y1 y2 y3
      unfold impl_MatchesPut.l0
      repeat' first
      | (with_reducible exact ih0 _ _ _ _)
      | (with_reducible exact LeO.refl _)
      | (with_reducible exact LeO.none _)
      | (with_reducible refine LeO.ite ?_ ?_)
      | (with_reducible refine LeO.bind ?_ (fun _ => ?_))
      | exact ih0 _ _ _ _
      | exact LeO.none _
      | refine LeO.ite ?_ ?_
      | refine LeO.bind ?_ (fun _ => ?_)
theorem impl_MatchesPut.mono : ∀ a0 k, LeO (impl_MatchesPut.f k a0) (impl_MatchesPut.f (k + 1) a0) := by
  intro a0 k
  have ih0 := impl_MatchesPut.mono_l k
  unfold impl_MatchesPut.f
  repeat' first
      | (with_reducible exact ih0 _ _ _ _)
      | (with_reducible exact LeO.refl _)
      | (with_reducible exact LeO.none _)
      | (with_reducible refine LeO.ite ?_ ?_)
      | (with_reducible refine LeO.bind ?_ (fun _ => ?_))
      | exact ih0 _ _ _ _
      | exact LeO.none _
      | refine LeO.ite ?_ ?_
      | refine LeO.bind ?_ (fun _ => ?_)
def impl_MatchesPut.T7 : Bool × List (List Nat × List Nat) := (true, [([], []), ([], []), ([1], [1]), ([], []), ([3], [3]), ([], []), ([5], [5]), ([6], [6]), ([4, 7], [4, 7]), ([2, 8], [2, 8]), ([], []), ([10], [10]), ([9, 11], [9, 11]), ([12], [12]), ([0, 13], [0, 13]), ([14, 14, 0, 1, 2, 3, 4, 5, 6, 7, 8, 9, 10, 11, 12, 13, 14], [0, 14])])
def impl_MatchesPut.B7 : List Nat := [0, 0, 2, 0, 8, 0, 32, 96, 248, 510, 0, 1024, 4094, 8190, 16383, 32767]
theorem impl_MatchesPut.tab7 : rtab .any (opsOf Try.f24 7) = impl_MatchesPut.T7 := by kernel_rfl
theorem impl_MatchesPut.bits7 : waitsOk impl_MatchesPut.T7.2 impl_MatchesPut.B7 = true := by kernel_rfl
set_option maxHeartbeats 8000000 in
set_option maxRecDepth 100000 in
theorem impl_MatchesPut.calls (k : Nat) (A0 : Option Addr) (c0 : Nat) (l0 : List (S48)) (r : ByteArray) (w : World) (hr0 : Kd.C k48 w A0 l0.length l0) (hc0 : l0.length ≤ c0) (h : impl_MatchesPut.f k l0 = some r) :
    Calls Try.prog 24 #[.slice A0 l0.length c0] w fun e w' => e = .returned (.string r) ∧ Below w.heap.size w w' := by
  have hu48 := Try.underlying48
  have HR0 := Aside0.mk hr0
  have HC0 := Aside0.mk hc0
  clear hr0 hc0
  have HB := Aside0.mk (Below.refl w.heap.size w)
  have H : ((impl_MatchesOk.f l0).bind fun t131 => (if t131 = true then (impl_MatchesPut.l0 k ([] : List ByteArray) l0 (l0.length : Int) 0) else (some (⟨#[]⟩ : ByteArray)))) = some r := h
  clear h
  replace H := Option.bind_eq_some_iff.mp H
  obtain ⟨t131, A20, H⟩ := H
  replace H : (if t131 = true then (impl_MatchesPut.l0 k ([] : List ByteArray) l0 (l0.length : Int) 0) else (some (⟨#[]⟩ : ByteArray))) = some r := H
  have A2 := Aside0.mk A20
  clear A20
  by_cases c3 : t131 = true
  · subst c3
    have H1 : (impl_MatchesPut.l0 k ([] : List ByteArray) l0 (l0.length : Int) 0) = some r := by rw [if_pos rfl] at H; exact H
    clear H
    have H := H1
    clear H1
    have H' := Aside0.mk H
    clear H
    go_enter Try.func24, Try.ntmps24
    go_wp2_with (first | ((with_reducible refine gate_callee (f := 52) rfl ?_); refine goesL_ (some 7) rfl rfl Try.func52 (by kernel_rfl) rfl #[.slice A0 l0.length c0] rfl (by (try simp only [List.map_toArray, List.map_cons, List.map_nil]); first | done | rfl | (simp only [List.length_drop, List.length_take]; rfl)) ?_; (with_reducible refine (impl_MatchesOk.calls _ _ l0 true _ ?side1 ?side2 A2.out).mono ?_); (case side1 => repeat (first | exact HR0.out | (with_reducible refine Kd.C_alloc ?_ _) | (with_reducible refine Kd.C_drewN ?_ _) | (with_reducible refine Kd.C_drew ?_))); (case side2 => exact HC0.out); rintro e w4 ⟨rfl, hb⟩; refine ⟨_, rfl, ?_⟩; have n0_ := Aside0.mk (below_step (by repeat (first | (with_reducible first | exact HB.out | apply below_alloc | apply pw_below_drewN | apply below_drew1) | exact HB.out)) hb); clear HB; have HB := n0_; clear n0_; (try clear hb); (try clear hb2); (try clear hk); (try clear hi)))
    go_loopg [3, 11] k (fun kq v3 v11 w' => ∃ (x3_1 : List ByteArray) (x11_1 : Int), v11 = .int .i64 x11_1 ∧ Aside0 (impl_MatchesPut.l0 kq x3_1 l0 (l0.length : Int) x11_1 = some r) ∧ Aside0 (kq ≤ k) ∧ Aside0 (Kd.R Kd.string 9 w' w.heap.size (fun _ => True) v3 x3_1) ∧ Aside0 (Below w.heap.size w w'))
    case atStart => exact ⟨(([] : List ByteArray)), (0), (by first | rfl | (simp; done) | (simp [*]; done) | (simp only [my_ne_nil]; rfl)), H', ⟨Nat.le_refl _⟩, ⟨by first | exact Kd.R_nil _ _ _ _ _ | exact Kd.N_nil _ _ _ _ _ | exact Kd.V_nil _ _ _ _ _ | exact Kd.Q_nil _ _ _ _ _ | exact Kd.S_nil _ _ _ _ _⟩, ⟨by repeat (first | (with_reducible first | exact HB.out | apply below_alloc | apply pw_below_drewN | apply below_drew1) | exact HB.out)⟩⟩
    case round =>
      clear H'
      try clear c2
      try clear p2
      try clear c3
      obtain ⟨x3_1, x11_1, rfl, HA, HK1, HO_3, HB⟩ := hrel
      cases gk with
      | zero => exact absurd HA.out (by simp [impl_MatchesPut.l0])
      | succ k1 =>
        have H := HA.out
        clear HA
        simp only [impl_MatchesPut.l0] at H
        by_cases c5 : x11_1 < (l0.length : Int)
        · rw [if_pos c5] at H
          have c5b0 : decide (x11_1 < (l0.length : Int)) = true := decide_eq_true c5
          clear c5
          by_cases c6 : 0 ≤ x11_1
          · rw [if_pos c6] at H
            have c6b0 : decide (0 ≤ x11_1) = true := decide_eq_true c6
            clear c6
            by_cases c7 : x11_1 < (l0.length : Int)
            · rw [if_pos c7] at H
              have c7b0 : decide (x11_1 < (l0.length : Int)) = true := decide_eq_true c7
              clear c7
              by_cases c8 : 0 ≤ ((rd_T48 l0 x11_1).f0)
              · rw [if_pos c8] at H
                have c8b0 := eq_true c8
                have c8b1 : decide (0 ≤ ((rd_T48 l0 x11_1).f0)) = true := decide_eq_true c8
                clear c8
                by_cases c9 : ((rd_T48 l0 x11_1).f0) ≤ (wrap64 (((rd_T48 l0 x11_1).f0) + 1))
                · rw [if_pos c9] at H
                  have c9b0 := eq_true c9
                  have c9b1 : decide (((rd_T48 l0 x11_1).f0) ≤ (wrap64 (((rd_T48 l0 x11_1).f0) + 1))) = true := decide_eq_true c9
                  by_cases c10 : (wrap64 (((rd_T48 l0 x11_1).f0) + 1)) ≤ 5
                  · rw [if_pos c10] at H
                    have c10b0 := eq_true c10
                    have c10b1 : decide ((wrap64 (((rd_T48 l0 x11_1).f0) + 1)) ≤ 5) = true := decide_eq_true c10
                    by_cases c11 : ((rd_T48 l0 x11_1).f1).size + ((⟨#[32, 61, 33, 94, 126]⟩ : ByteArray).extract (((rd_T48 l0 x11_1).f0) : Int).toNat ((wrap64 (((rd_T48 l0 x11_1).f0) + 1)) : Int).toNat).size ≤ 9223372036854775807
                    · rw [if_pos c11] at H
                      have c11b0 := eq_true c11
                      have c11b1 : decide (((rd_T48 l0 x11_1).f1).size + ((⟨#[32, 61, 33, 94, 126]⟩ : ByteArray).extract (((rd_T48 l0 x11_1).f0) : Int).toNat ((wrap64 (((rd_T48 l0 x11_1).f0) + 1)) : Int).toNat).size ≤ 9223372036854775807) = true := decide_eq_true c11
                      try have c11b2 : (9223372036854775807 < ((rd_T48 l0 x11_1).f1).size + ((⟨#[32, 61, 33, 94, 126]⟩ : ByteArray).extract (((rd_T48 l0 x11_1).f0) : Int).toNat ((wrap64 (((rd_T48 l0 x11_1).f0) + 1)) : Int).toNat).size) = False := eq_false (Nat.not_lt.2 c11)
                      (try have c11b6 : (9223372036854775807 < ((rd_T48 l0 x11_1).f1).size + (((wrap64 (((rd_T48 l0 x11_1).f0) + 1))).toNat - (((rd_T48 l0 x11_1).f0)).toNat)) = False := eq_false (by have p_ : (wrap64 (((rd_T48 l0 x11_1).f0) + 1)) ≤ 5 := of_decide_eq_true (by first | (with_reducible assumption) | assumption); have h_ := c11; have e_ : (⟨#[32, 61, 33, 94, 126]⟩ : ByteArray).size = 5 := rfl; simp only [ByteArray.size_append, ByteArray.size_extract, e_] at h_; omega))
                      by_cases c12 : (((rd_T48 l0 x11_1).f1) ++ ((⟨#[32, 61, 33, 94, 126]⟩ : ByteArray).extract (((rd_T48 l0 x11_1).f0) : Int).toNat ((wrap64 (((rd_T48 l0 x11_1).f0) + 1)) : Int).toNat)).size + ((rd_T48 l0 x11_1).f2).size ≤ 9223372036854775807
                      · rw [if_pos c12] at H
                        have c12b0 := eq_true c12
                        have c12b1 : decide ((((rd_T48 l0 x11_1).f1) ++ ((⟨#[32, 61, 33, 94, 126]⟩ : ByteArray).extract (((rd_T48 l0 x11_1).f0) : Int).toNat ((wrap64 (((rd_T48 l0 x11_1).f0) + 1)) : Int).toNat)).size + ((rd_T48 l0 x11_1).f2).size ≤ 9223372036854775807) = true := decide_eq_true c12
                        try have c12b2 : (9223372036854775807 < (((rd_T48 l0 x11_1).f1) ++ ((⟨#[32, 61, 33, 94, 126]⟩ : ByteArray).extract (((rd_T48 l0 x11_1).f0) : Int).toNat ((wrap64 (((rd_T48 l0 x11_1).f0) + 1)) : Int).toNat)).size + ((rd_T48 l0 x11_1).f2).size) = False := eq_false (Nat.not_lt.2 c12)
                        (try have c12b6 : (9223372036854775807 < ((rd_T48 l0 x11_1).f1).size + (((wrap64 (((rd_T48 l0 x11_1).f0) + 1))).toNat - (((rd_T48 l0 x11_1).f0)).toNat) + ((rd_T48 l0 x11_1).f2).size) = False := eq_false (by have p_ : (wrap64 (((rd_T48 l0 x11_1).f0) + 1)) ≤ 5 := of_decide_eq_true (by first | (with_reducible assumption) | assumption); have h_ := c12; have e_ : (⟨#[32, 61, 33, 94, 126]⟩ : ByteArray).size = 5 := rfl; simp only [ByteArray.size_append, ByteArray.size_extract, e_] at h_; omega))
                        (try (have c12b5 := c12b2; simp only [ByteArray.size_append, show (⟨#[32, 61, 33, 94, 126]⟩ : ByteArray).size = 5 from rfl] at c12b5))
                        by_cases c13 : x3_1.length < 8796093022208
                        · rw [if_pos c13] at H
                          have LMc13 := Aside0.mk c13
                          clear c13
                          obtain ⟨y134, hy134⟩ : ∃ y_ : List ByteArray, y_ = (x3_1 ++ [(((rd_T48 l0 x11_1).f1) ++ ((⟨#[32, 61, 33, 94, 126]⟩ : ByteArray).extract (((rd_T48 l0 x11_1).f0) : Int).toNat ((wrap64 (((rd_T48 l0 x11_1).f0) + 1)) : Int).toNat)) ++ ((rd_T48 l0 x11_1).f2)]) := ⟨_, rfl⟩
                          replace H : (impl_MatchesPut.l0 k1 y134 l0 (l0.length : Int) (wrap64 (x11_1 + 1))) = some r := by first | (rw [hy134]; with_reducible exact H) | (have H2_ := (Option.bind_some _ _).symm.trans H; rw [hy134]; with_reducible exact H2_) | (have H2_ := (Option.bind_some _ _).symm.trans H; with_reducible exact H2_) | with_reducible exact H | (rw [hy134]; exact H) | exact H
                          have Ny134 := Aside0.mk hy134
                          clear hy134
                          have H' := Aside0.mk H
                          clear H
                          have p132 : 0 ≤ (x11_1 : Int) := of_decide_eq_true (by first | (with_reducible assumption) | assumption)
                          have q132 : x11_1 < (l0.length : Int) := of_decide_eq_true (by first | (with_reducible assumption) | assumption)
                          obtain ⟨ad132, e132, hx132_0, hx132_1, hx132_2⟩ := at_T48 HR0.out x11_1 p132 q132
                          cases e132
                          replace hx132_0 := (HB.out.cell (World.block_lt_of_cell? w _ hx132_0)).trans hx132_0
                          replace hx132_1 := (HB.out.cell (World.block_lt_of_cell? w _ hx132_1)).trans hx132_1
                          replace hx132_2 := (HB.out.cell (World.block_lt_of_cell? w _ hx132_2)).trans hx132_2
                          replace p132 := eq_true p132
                          replace q132 := eq_true q132
                          try go_wp2_with (first | ((with_reducible refine gate_dst (N := 5) rfl ?_); refine box_event ?hg (N := 5) ?hd (cs := #[.int .i64 0, .string (⟨#[]⟩ : ByteArray), .string (⟨#[]⟩ : ByteArray)]) (t := 48) ?hr ?_; (case hd => rfl); (case hg => rfl); (case hr => first | (go_simp; done) | (go_simp; rfl)); intro gb133 hg w14 hbox hb; have n0_ := Aside0.mk (Kd.R_below (by (with_reducible repeat (first | apply Kd.R_alloc | apply Kd.R_drewN | apply Kd.R_drew)); exact HO_3.out) hb); have n1_ := Aside0.mk (below_step (by repeat (first | (with_reducible first | exact HB.out | apply below_alloc | apply pw_below_drewN | apply below_drew1) | exact HB.out)) hb); have n2_ := Aside0.mk (hbox); have n3_ := Aside0.mk ((by rw [hg]; exact (below_size (by repeat (first | (with_reducible first | exact HB.out | apply below_alloc | apply pw_below_drewN | apply below_drew1) | exact HB.out))) : w.heap.size ≤ gb133)); have n4_ := Aside0.mk ((by rw [hg]; exact (below_size (by repeat (first | (with_reducible first | exact HB.out | apply below_alloc | apply pw_below_drewN | apply below_drew1) | exact HB.out))) : w.heap.size ≤ gb133)); clear HO_3; clear HB; have HO_3 := n0_; have HB := n1_; have BK133 := n2_; have GW133 := n3_; have GE133 := n4_; clear n0_ n1_ n2_ n3_ n4_; clear hb hbox hg; have hcz15_0 : w14.cell? ⟨gb133, 0, none⟩ = some (.int .i64 0) := (blk_cell BK133.out 0).trans rfl; have hcz15_1 : w14.cell? ⟨gb133, 1, none⟩ = some (.string (⟨#[]⟩ : ByteArray)) := (blk_cell BK133.out 1).trans rfl; have hcz15_2 : w14.cell? ⟨gb133, 2, none⟩ = some (.string (⟨#[]⟩ : ByteArray)) := (blk_cell BK133.out 2).trans rfl; have hfz15_0 := blk_frozen BK133.out 0; have hfz15_1 := blk_frozen BK133.out 1; have hfz15_2 := blk_frozen BK133.out 2))
                          have n0_ : Aside0 (Kd.R Kd.string 9 (((w14.setCell ⟨gb133, 0, none⟩ (.int .i64 ((rd_T48 l0 x11_1).f0))).setCell ⟨gb133, 1, none⟩ (.string ((rd_T48 l0 x11_1).f1))).setCell ⟨gb133, 2, none⟩ (.string ((rd_T48 l0 x11_1).f2))) w.heap.size (fun _ => True) u3 x3_1) := ⟨by (with_reducible repeat (first | apply Kd.R_alloc | apply Kd.R_drewN | apply Kd.R_drew)); exact Kd.R_mono (Kd.R_far (p := ⟨gb133, 2, none⟩) (Kd.R_far (p := ⟨gb133, 1, none⟩) (Kd.R_far (p := ⟨gb133, 0, none⟩) (Kd.R_types HO_3.out BK133.out (by decide)) (fun _ hk => hk.2) (.int .i64 ((rd_T48 l0 x11_1).f0))) (fun _ hk => hk.2) (.string ((rd_T48 l0 x11_1).f1))) (fun _ hk => hk.2) (.string ((rd_T48 l0 x11_1).f2))) (fun _ hk => trivial)⟩
                          have n1_ : Aside0 ((((w14.setCell ⟨gb133, 0, none⟩ (.int .i64 ((rd_T48 l0 x11_1).f0))).setCell ⟨gb133, 1, none⟩ (.string ((rd_T48 l0 x11_1).f1))).setCell ⟨gb133, 2, none⟩ (.string ((rd_T48 l0 x11_1).f2))).heap[gb133]? = some (.cells #[.int .i64 ((rd_T48 l0 x11_1).f0), .string ((rd_T48 l0 x11_1).f1), .string ((rd_T48 l0 x11_1).f2)] 48 (0, 0))) := ⟨by (with_reducible repeat (first | refine blk_drewN ?_ _ | refine blk_drew ?_ | refine blk_alloc ?_ _)); refine blk_put (cs := #[.int .i64 ((rd_T48 l0 x11_1).f0), .string ((rd_T48 l0 x11_1).f1), .string (⟨#[]⟩ : ByteArray)]) ?_ 2 _ rfl; (with_reducible repeat (first | refine blk_drewN ?_ _ | refine blk_drew ?_ | refine blk_alloc ?_ _)); refine blk_put (cs := #[.int .i64 ((rd_T48 l0 x11_1).f0), .string (⟨#[]⟩ : ByteArray), .string (⟨#[]⟩ : ByteArray)]) ?_ 1 _ rfl; (with_reducible repeat (first | refine blk_drewN ?_ _ | refine blk_drew ?_ | refine blk_alloc ?_ _)); refine blk_put (cs := #[.int .i64 0, .string (⟨#[]⟩ : ByteArray), .string (⟨#[]⟩ : ByteArray)]) ?_ 0 _ rfl; (with_reducible repeat (first | refine blk_drewN ?_ _ | refine blk_drew ?_ | refine blk_alloc ?_ _)); exact BK133.out⟩
                          have n2_ : Aside0 (Below w.heap.size w (((w14.setCell ⟨gb133, 0, none⟩ (.int .i64 ((rd_T48 l0 x11_1).f0))).setCell ⟨gb133, 1, none⟩ (.string ((rd_T48 l0 x11_1).f1))).setCell ⟨gb133, 2, none⟩ (.string ((rd_T48 l0 x11_1).f2)))) := ⟨by repeat (first | (with_reducible first | exact HB.out | apply below_alloc | apply pw_below_drewN | apply below_drew1 | refine below_set ?_ GE133.out) | exact HB.out)⟩
                          (try clear HO_3)
                          (try clear BK133)
                          (try clear HB)
                          generalize (((w14.setCell ⟨gb133, 0, none⟩ (.int .i64 ((rd_T48 l0 x11_1).f0))).setCell ⟨gb133, 1, none⟩ (.string ((rd_T48 l0 x11_1).f1))).setCell ⟨gb133, 2, none⟩ (.string ((rd_T48 l0 x11_1).f2))) = w16 at n0_ n1_ n2_ ⊢
                          have HO_3 := n0_
                          have BK133 := n1_
                          have HB := n2_
                          clear n0_ n1_ n2_
                          have n0_ := Aside0.mk (Kd.R_drew HO_3.out)
                          have n1_ := Aside0.mk (blk_drew BK133.out)
                          have n2_ := Aside0.mk (below_drew1 HB.out)
                          clear HO_3
                          clear BK133
                          clear HB
                          have HO_3 := n0_
                          have BK133 := n1_
                          have HB := n2_
                          clear n0_ n1_ n2_
                          refine start_ (n := 16) (S := fun w' => w'.cell? ⟨gb133, 0, none⟩ = some (.int .i64 ((rd_T48 l0 x11_1).f0)) ∧ w'.cell? ⟨gb133, 1, none⟩ = some (.string ((rd_T48 l0 x11_1).f1)) ∧ w'.cell? ⟨gb133, 2, none⟩ = some (.string ((rd_T48 l0 x11_1).f2))) (ds := []) #[false, false, false, false, false, false, false, false, false, false, false, false, false, false, false, false] (by kernel_rfl) rfl rfl ⟨(blk_cell BK133.out 0).trans rfl, (blk_cell BK133.out 1).trans rfl, (blk_cell BK133.out 2).trans rfl⟩ (fun hHeld => ?_); refine with_tabW impl_MatchesPut.tab7 impl_MatchesPut.bits7 (fun HT_ HW_ => ?_)
                          generalize w16.drew = w17 at HO_3 BK133 HB hHeld ⊢
                          refine pure_ (i := 0) (N := some 15) (v := ?_) (a' := ?_) #[true, false, false, false, false, false, false, false, false, false, false, false, false, false, false, false] rfl rfl (any_of HT_.out (by kernel_rfl)) (fun _ _ _ h => h) (Or.inl ⟨by rfl, ?_⟩) ?_ ?_
                          rotate_left
                          · intro w'
                            go_simp
                            with_reducible rfl
                          rotate_left
                          · simp only [Act.put, List.setIfInBounds_toArray, List.set_cons_zero, List.set_cons_succ, i64_w, i32_w]
                            rfl
                          refine pure_ (i := 1) (N := some 16) (v := ?_) (a' := ?_) #[true, true, false, false, false, false, false, false, false, false, false, false, false, false, false, false] rfl rfl (any_of HT_.out (by kernel_rfl)) (fun _ _ _ h => h) (Or.inl ⟨by rfl, ?_⟩) ?_ ?_
                          rotate_left
                          · intro w'
                            go_simp
                            with_reducible rfl
                          rotate_left
                          · simp only [Act.put, List.setIfInBounds_toArray, List.set_cons_zero, List.set_cons_succ, i64_w, i32_w]
                            rfl
                          refine pure_ (i := 3) (N := some 18) (v := ?_) (a' := ?_) #[true, true, false, true, false, false, false, false, false, false, false, false, false, false, false, false] rfl rfl (any_of HT_.out (by kernel_rfl)) (fun _ _ _ h => h) (Or.inl ⟨by rfl, ?_⟩) ?_ ?_
                          rotate_left
                          · intro w'
                            go_simp
                            with_reducible rfl
                          rotate_left
                          · simp only [Act.put, List.setIfInBounds_toArray, List.set_cons_zero, List.set_cons_succ, i64_w, i32_w]
                            rfl
                          refine pure_ (i := 5) (N := some 20) (v := ?_) (a' := ?_) #[true, true, false, true, false, true, false, false, false, false, false, false, false, false, false, false] rfl rfl (any_of HT_.out (by kernel_rfl)) (fun _ _ _ h => h) (Or.inl ⟨by rfl, ?_⟩) ?_ ?_
                          rotate_left
                          · intro w'
                            go_simp
                            with_reducible rfl
                          rotate_left
                          · simp only [Act.put, List.setIfInBounds_toArray, List.set_cons_zero, List.set_cons_succ, i64_w, i32_w]
                            rfl
                          refine pure_ (i := 10) (N := some 25) (v := ?_) (a' := ?_) #[true, true, false, true, false, true, false, false, false, false, true, false, false, false, false, false] rfl rfl (any_of HT_.out (by kernel_rfl)) (fun _ _ _ h => h) (Or.inl ⟨by rfl, ?_⟩) ?_ ?_
                          rotate_left
                          · intro w'
                            go_simp
                            with_reducible rfl
                          rotate_left
                          · simp only [Act.put, List.setIfInBounds_toArray, List.set_cons_zero, List.set_cons_succ, i64_w, i32_w]
                            rfl
                          refine take_ (i := 2) (N := some 17) (v := ?_) (a' := ?_) #[true, true, true, true, false, true, false, false, false, false, true, false, false, false, false, false] rfl rfl (take_ofW HT_.out HW_.out (by kernel_rfl)) (fun _ _ _ h => h) (Or.inl ⟨by rfl, ?_⟩) hHeld ?_ ?_
                          rotate_left
                          · rintro w' ⟨s0, s1, s2⟩
                            go_simp
                            with_reducible rfl
                          rotate_left
                          · simp only [Act.put, List.setIfInBounds_toArray, List.set_cons_zero, List.set_cons_succ, i64_w, i32_w]
                            rfl
                          refine take_ (i := 4) (N := some 19) (v := ?_) (a' := ?_) #[true, true, true, true, true, true, false, false, false, false, true, false, false, false, false, false] rfl rfl (take_ofW HT_.out HW_.out (by kernel_rfl)) (fun _ _ _ h => h) (Or.inl ⟨by rfl, ?_⟩) hHeld ?_ ?_
                          rotate_left
                          · rintro w' ⟨s0, s1, s2⟩
                            go_simp
                            with_reducible rfl
                          rotate_left
                          · simp only [Act.put, List.setIfInBounds_toArray, List.set_cons_zero, List.set_cons_succ, i64_w, i32_w]
                            rfl
                          refine take_ (i := 6) (N := some 21) (v := ?_) (a' := ?_) #[true, true, true, true, true, true, true, false, false, false, true, false, false, false, false, false] rfl rfl (take_ofW HT_.out HW_.out (by kernel_rfl)) (fun _ _ _ h => h) (Or.inl ⟨by rfl, ?_⟩) hHeld ?_ ?_
                          rotate_left
                          · rintro w' ⟨s0, s1, s2⟩
                            go_simp
                            with_reducible rfl
                          rotate_left
                          · simp only [Act.put, List.setIfInBounds_toArray, List.set_cons_zero, List.set_cons_succ, i64_w, i32_w]
                            rfl
                          refine pure_ (i := 7) (N := some 22) (v := ?_) (a' := ?_) #[true, true, true, true, true, true, true, true, false, false, true, false, false, false, false, false] rfl rfl (any_of HT_.out (by kernel_rfl)) (fun _ _ _ h => h) (Or.inl ⟨by rfl, ?_⟩) ?_ ?_
                          rotate_left
                          · intro w'
                            go_simp
                            with_reducible rfl
                          rotate_left
                          · simp only [Act.put, List.setIfInBounds_toArray, List.set_cons_zero, List.set_cons_succ, i64_w, i32_w]
                            rfl
                          refine pure_ (i := 8) (N := some 23) (v := ?_) (a' := ?_) #[true, true, true, true, true, true, true, true, true, false, true, false, false, false, false, false] rfl rfl (any_of HT_.out (by kernel_rfl)) (fun _ _ _ h => h) (Or.inl ⟨by rfl, ?_⟩) ?_ ?_
                          rotate_left
                          · intro w'
                            go_simp
                            with_reducible rfl
                          rotate_left
                          · simp only [Act.put, List.setIfInBounds_toArray, List.set_cons_zero, List.set_cons_succ, i64_w, i32_w]
                            rfl
                          refine pure_ (i := 9) (N := some 24) (v := ?_) (a' := ?_) #[true, true, true, true, true, true, true, true, true, true, true, false, false, false, false, false] rfl rfl (any_of HT_.out (by kernel_rfl)) (fun _ _ _ h => h) (Or.inl ⟨by rfl, ?_⟩) ?_ ?_
                          rotate_left
                          · intro w'
                            go_simp
                            with_reducible rfl
                          rotate_left
                          · simp only [Act.put, List.setIfInBounds_toArray, List.set_cons_zero, List.set_cons_succ, i64_w, i32_w]
                            rfl
                          refine take_ (i := 11) (N := some 26) (v := ?_) (a' := ?_) #[true, true, true, true, true, true, true, true, true, true, true, true, false, false, false, false] rfl rfl (take_ofW HT_.out HW_.out (by kernel_rfl)) (fun _ _ _ h => h) (Or.inl ⟨by rfl, ?_⟩) hHeld ?_ ?_
                          rotate_left
                          · rintro w' ⟨s0, s1, s2⟩
                            go_simp
                            with_reducible rfl
                          rotate_left
                          · simp only [Act.put, List.setIfInBounds_toArray, List.set_cons_zero, List.set_cons_succ, i64_w, i32_w]
                            rfl
                          refine pure_ (i := 12) (N := some 27) (v := ?_) (a' := ?_) #[true, true, true, true, true, true, true, true, true, true, true, true, true, false, false, false] rfl rfl (any_of HT_.out (by kernel_rfl)) (fun _ _ _ h => h) (Or.inl ⟨by rfl, ?_⟩) ?_ ?_
                          rotate_left
                          · intro w'
                            go_simp
                            with_reducible rfl
                          rotate_left
                          · simp only [Act.put, List.setIfInBounds_toArray, List.set_cons_zero, List.set_cons_succ, i64_w, i32_w]
                            rfl
                          refine one_ (i := 13) (N := some 28) #[true, true, true, true, true, true, true, true, true, true, true, true, true, true, false, false] rfl rfl (one_of HT_.out (by kernel_rfl)) (by decide) (fun K hK => ?_)
                          refine value_ (w1 := ?_) (v := ?_) (by rfl) rfl ?_ ?_
                          rotate_left 2
                          · go_simp
                            constructor
                            · rfl
                            · rfl
                          refine hK.out _ _ ⟨(blk_cell (blk_alloc BK133.out _) 0).trans rfl, (blk_cell (blk_alloc BK133.out _) 1).trans rfl, (blk_cell (blk_alloc BK133.out _) 2).trans rfl⟩ (fun hHeld => ?_)
                          clear hK K
                          refine norm_ (a' := ?_) ?_ ?_
                          rotate_left
                          · show Act.put _ (some 28) _ = _
                            simp only [Act.put, List.setIfInBounds_toArray, List.set_cons_zero, List.set_cons_succ, i64_w, i32_w]
                            rfl
                          refine one_ (i := 14) (N := some 29) #[true, true, true, true, true, true, true, true, true, true, true, true, true, true, true, false] rfl rfl (one_of HT_.out (by kernel_rfl)) (by decide) (fun K hK => ?_)
                          refine Kd.R_append_step Kd.string (w0 := w) w.heap.size (by rfl) (.tmp 15) (.tmp 28) 65 9 (.string ⟨#[]⟩) 16 rfl Try.underlying65 info9 rfl (by decide) (by omega) u3 x3_1 ((((rd_T48 l0 x11_1).f1) ++ ((⟨#[32, 61, 33, 94, 126]⟩ : ByteArray).extract (((rd_T48 l0 x11_1).f0) : Int).toNat ((wrap64 (((rd_T48 l0 x11_1).f0) + 1)) : Int).toNat)) ++ ((rd_T48 l0 x11_1).f2)) [.string ((((rd_T48 l0 x11_1).f1) ++ ((⟨#[32, 61, 33, 94, 126]⟩ : ByteArray).extract (((rd_T48 l0 x11_1).f0) : Int).toNat ((wrap64 (((rd_T48 l0 x11_1).f0) + 1)) : Int).toNat)) ++ ((rd_T48 l0 x11_1).f2))] (fun _ => True) (fun _ => False) rfl rfl ?aP (fun _ hk => hk.elim) ?aF ?aO ?aB ?aS ?aL ?_
                          (case aP => exact rfl)
                          (case aB => exact (by repeat (first | (with_reducible first | exact HB.out | apply below_alloc | apply pw_below_drewN | apply below_drew1 | refine below_set ?_ GE133.out) | exact HB.out)))
                          (case aF => exact (fun _ _ => trivial))
                          (case aO => exact (by (with_reducible repeat (first | apply Kd.R_alloc | apply Kd.R_drewN | apply Kd.R_drew)); exact HO_3.out))
                          (case aS => exact (below_size (by repeat (first | (with_reducible first | exact HB.out | apply below_alloc | apply pw_below_drewN | apply below_drew1 | refine below_set ?_ GE133.out) | exact HB.out))))
                          (case aL => have := LMc13.out; omega)
                          intro v135 w18 ho hb hg hat
                          rw [← Ny134.out] at ho
                          have n0_ := Aside0.mk (blk_grown (g := gb133) (o := .cells #[.int .i64 ((rd_T48 l0 x11_1).f0), .string ((rd_T48 l0 x11_1).f1), .string ((rd_T48 l0 x11_1).f2)] 48 (0, 0)) (by (with_reducible repeat (first | refine blk_drewN ?_ _ | refine blk_drew ?_ | refine blk_alloc ?_ _)); exact BK133.out) hg (Kd.R_ne HO_3.out BK133.out (by decide)))
                          have n1_ := Aside0.mk (hb)
                          have n2_ := Aside0.mk (ho)
                          clear BK133
                          clear HB
                          clear HO_3
                          have BK133 := n0_
                          have HB := n1_
                          have HO136 := n2_
                          clear n0_ n1_ n2_
                          clear ho hb hg hat
                          refine hK.out _ _ ⟨(blk_cell BK133.out 0).trans rfl, (blk_cell BK133.out 1).trans rfl, (blk_cell BK133.out 2).trans rfl⟩ (fun hHeld => ?_)
                          clear hK K
                          refine norm_ (a' := ?_) ?_ ?_
                          rotate_left
                          · show Act.put _ (some 29) _ = _
                            simp only [Act.put, List.setIfInBounds_toArray, List.set_cons_zero, List.set_cons_succ, i64_w, i32_w]
                            rfl
                          refine pure_ (i := 15) (N := some 3) (v := ?_) (a' := ?_) #[true, true, true, true, true, true, true, true, true, true, true, true, true, true, true, true] rfl rfl (any_of HT_.out (by kernel_rfl)) (fun _ _ _ h => h) (Or.inl ⟨by rfl, ?_⟩) ?_ ?_
                          rotate_left
                          · intro w'
                            go_simp
                            with_reducible rfl
                          rotate_left
                          · simp only [Act.put, List.setIfInBounds_toArray, List.set_cons_zero, List.set_cons_succ, i64_w, i32_w]
                            rfl
                          refine done_ (done_of HT_.out (by kernel_rfl)) ?_
                          try go_wp2
                          go_roundg k1
                          case measure => have := HK1.out; omega
                          case rel => exact ⟨(y134), (wrap64 (x11_1 + 1)), (by first | rfl | (simp; done) | (simp [*]; done) | (simp only [my_ne_nil]; rfl)), H', ⟨by have := HK1.out; omega⟩, ⟨by (with_reducible repeat (first | apply Kd.R_alloc | apply Kd.R_drewN | apply Kd.R_drew)); exact HO136.out⟩, ⟨by repeat (first | (with_reducible first | exact HB.out | apply below_alloc | apply pw_below_drewN | apply below_drew1 | refine below_set ?_ GE133.out) | exact HB.out)⟩⟩
                        · rw [if_neg c13] at H
                          exact absurd H (by simp)
                      · rw [if_neg c12] at H
                        exact absurd H (by simp)
                    · rw [if_neg c11] at H
                      exact absurd H (by simp)
                  · rw [if_neg c10] at H
                    exact absurd H (by simp)
                · rw [if_neg c9] at H
                  exact absurd H (by simp)
              · rw [if_neg c8] at H
                exact absurd H (by simp)
            · rw [if_neg c7] at H
              exact absurd H (by simp)
          · rw [if_neg c6] at H
            exact absurd H (by simp)
        · rw [if_neg c5] at H
          have c5b0 : decide (x11_1 < (l0.length : Int)) = false := decide_eq_false c5
          clear c5
          replace H := Option.bind_eq_some_iff.mp H
          obtain ⟨t137, A190, H⟩ := H
          replace H : (if 1 + t137.size ≤ 9223372036854775807 then (if ((⟨#[91]⟩ : ByteArray) ++ t137).size + 1 ≤ 9223372036854775807 then (some (((⟨#[91]⟩ : ByteArray) ++ t137) ++ (⟨#[93]⟩ : ByteArray))) else (none)) else (none)) = some r := H
          have A19 := Aside0.mk A190
          clear A190
          by_cases c20 : 1 + t137.size ≤ 9223372036854775807
          · rw [if_pos c20] at H
            have c20b0 := eq_true c20
            have c20b1 : decide (1 + t137.size ≤ 9223372036854775807) = true := decide_eq_true c20
            try have c20b2 : (9223372036854775807 < 1 + t137.size) = False := eq_false (Nat.not_lt.2 c20)
            by_cases c21 : ((⟨#[91]⟩ : ByteArray) ++ t137).size + 1 ≤ 9223372036854775807
            · rw [if_pos c21] at H
              have c21b0 := eq_true c21
              have c21b1 : decide (((⟨#[91]⟩ : ByteArray) ++ t137).size + 1 ≤ 9223372036854775807) = true := decide_eq_true c21
              try have c21b2 : (9223372036854775807 < ((⟨#[91]⟩ : ByteArray) ++ t137).size + 1) = False := eq_false (Nat.not_lt.2 c21)
              (try (have c21b5 := c21b2; simp only [ByteArray.size_append, show (⟨#[91]⟩ : ByteArray).size = 1 from rfl] at c21b5))
              obtain rfl := Option.some.inj H
              obtain ⟨Ao22, co22, eo22⟩ := Kd.R_slice HO_3.out
              subst eo22
              go_wp2_with (first | ((with_reducible refine gate_callee (f := 42) rfl ?_); refine goesL_ (some 32) rfl rfl Try.func42 (by kernel_rfl) rfl #[.slice Ao22 x3_1.length co22, .string (⟨#[44]⟩ : ByteArray)] rfl (by (try simp only [List.map_toArray, List.map_cons, List.map_nil]); first | done | rfl | (simp only [List.length_drop, List.length_take]; rfl)) ?_; (with_reducible refine (strings_Join.calls _ _ x3_1 (⟨#[44]⟩ : ByteArray) t137 _ ?side1 ?side2 A19.out).mono ?_); (case side1 => repeat (first | exact (Kd.R_reads' HO_3.out).2.2 | (with_reducible refine Kd.C_alloc ?_ _) | (with_reducible refine Kd.C_drewN ?_ _) | (with_reducible refine Kd.C_drew ?_))); (case side2 => exact (Kd.R_reads' HO_3.out).2.1); rintro e w23 ⟨rfl, hb⟩; refine ⟨_, rfl, ?_⟩; have n0_ := Aside0.mk (Kd.R_below (by (with_reducible repeat (first | apply Kd.R_alloc | apply Kd.R_drewN | apply Kd.R_drew)); exact HO_3.out) hb); have n1_ := Aside0.mk (below_step (by repeat (first | (with_reducible first | exact HB.out | apply below_alloc | apply pw_below_drewN | apply below_drew1) | exact HB.out)) hb); clear HO_3; clear HB; have HO_3 := n0_; have HB := n1_; clear n0_ n1_; (try clear hb); (try clear hb2); (try clear hk); (try clear hi)))
              go_ret
              exact ⟨by first | rfl | (simp [errW_none, errW_some] <;> rfl) | (simp [*, errW_none, errW_some] <;> rfl), by repeat (first | (with_reducible first | exact HB.out | apply below_alloc | apply pw_below_drewN | apply below_drew1) | exact HB.out)⟩
            · rw [if_neg c21] at H
              exact absurd H (by simp)
          · rw [if_neg c20] at H
            exact absurd H (by simp)
  · replace c3 := Bool.eq_false_iff.mpr c3
    subst c3
    have H1 : (some (⟨#[]⟩ : ByteArray)) = some r := by rw [if_neg (show ¬ (false = true) by decide)] at H; exact H
    clear H
    have H := H1
    clear H1
    obtain rfl := Option.some.inj H
    go_enter Try.func24, Try.ntmps24
    go_wp2_with (first | ((with_reducible refine gate_callee (f := 52) rfl ?_); refine goesL_ (some 7) rfl rfl Try.func52 (by kernel_rfl) rfl #[.slice A0 l0.length c0] rfl (by (try simp only [List.map_toArray, List.map_cons, List.map_nil]); first | done | rfl | (simp only [List.length_drop, List.length_take]; rfl)) ?_; (with_reducible refine (impl_MatchesOk.calls _ _ l0 false _ ?side1 ?side2 A2.out).mono ?_); (case side1 => repeat (first | exact HR0.out | (with_reducible refine Kd.C_alloc ?_ _) | (with_reducible refine Kd.C_drewN ?_ _) | (with_reducible refine Kd.C_drew ?_))); (case side2 => exact HC0.out); rintro e w24 ⟨rfl, hb⟩; refine ⟨_, rfl, ?_⟩; have n0_ := Aside0.mk (below_step (by repeat (first | (with_reducible first | exact HB.out | apply below_alloc | apply pw_below_drewN | apply below_drew1) | exact HB.out)) hb); clear HB; have HB := n0_; clear n0_; (try clear hb); (try clear hb2); (try clear hk); (try clear hi)))
    go_ret
    exact ⟨by first | rfl | (simp [errW_none, errW_some] <;> rfl) | (simp [*, errW_none, errW_some] <;> rfl), by repeat (first | (with_reducible first | exact HB.out | apply below_alloc | apply pw_below_drewN | apply below_drew1) | exact HB.out)⟩

/-! ### laws_eqMatch: function 53 -/
def laws_eqMatch.f (a0_0 : Int) (a0_1 : ByteArray) (a0_2 : ByteArray) (a1_0 : Int) (a1_1 : ByteArray) (a1_2 : ByteArray) : Option (Bool) := if a0_0 = a1_0 then (if a0_1.toList = a1_1.toList then (if a0_2.toList = a1_2.toList then (some true) else (some false)) else (some false)) else (some false)
set_option maxHeartbeats 8000000 in
set_option maxRecDepth 100000 in
theorem laws_eqMatch.calls (a0_0 : Int) (a0_1 : ByteArray) (a0_2 : ByteArray) (a1_0 : Int) (a1_1 : ByteArray) (a1_2 : ByteArray) (r : Bool) (w : World) (h : laws_eqMatch.f a0_0 a0_1 a0_2 a1_0 a1_1 a1_2 = some r) :
    Calls Try.prog 53 #[.agg #[.int .i64 a0_0, .string a0_1, .string a0_2], .agg #[.int .i64 a1_0, .string a1_1, .string a1_2]] w fun e w' => e = .returned (.bool r) ∧ Below w.heap.size w w' := by
  have hu48 := Try.underlying48
  have HB := Aside0.mk (Below.refl w.heap.size w)
  have H : (if a0_0 = a1_0 then (if a0_1.toList = a1_1.toList then (if a0_2.toList = a1_2.toList then (some true) else (some false)) else (some false)) else (some false)) = some r := h
  clear h
  by_cases c3 : a0_0 = a1_0
  · rw [if_pos c3] at H
    have c3b0 : (a0_0 == a1_0) = true := beq_iff_eq.mpr c3
    have c3b1 : (a0_0 != a1_0) = false := bne_eq_false_iff_eq.mpr c3
    clear c3
    by_cases c4 : a0_1.toList = a1_1.toList
    · rw [if_pos c4] at H
      have c4b0 : (a0_1.toList == a1_1.toList) = true := beq_iff_eq.mpr c4
      have c4b1 : (a0_1.toList != a1_1.toList) = false := bne_eq_false_iff_eq.mpr c4
      clear c4
      by_cases c5 : a0_2.toList = a1_2.toList
      · rw [if_pos c5] at H
        have c5b0 : (a0_2.toList == a1_2.toList) = true := beq_iff_eq.mpr c5
        have c5b1 : (a0_2.toList != a1_2.toList) = false := bne_eq_false_iff_eq.mpr c5
        clear c5
        obtain rfl := Option.some.inj H
        go_enter Try.func53, Try.ntmps53
        go_wp2_with (first | ((with_reducible refine gate_dst (N := 2) rfl ?_); refine box_event ?hg (N := 2) ?hd (cs := #[.int .i64 a0_0, .string a0_1, .string a0_2]) (t := 48) ?hr ?_; (case hd => rfl); (case hg => rfl); (case hr => first | (go_simp; done) | (go_simp; rfl)); intro gb138 hg w6 hbox hb; have n0_ := Aside0.mk (below_step (by repeat (first | (with_reducible first | exact HB.out | apply below_alloc | apply pw_below_drewN | apply below_drew1) | exact HB.out)) hb); have n1_ := Aside0.mk (hbox); have n2_ := Aside0.mk ((by rw [hg]; exact (below_size (by repeat (first | (with_reducible first | exact HB.out | apply below_alloc | apply pw_below_drewN | apply below_drew1) | exact HB.out))) : w.heap.size ≤ gb138)); have n3_ := Aside0.mk ((by rw [hg]; exact (below_size (by repeat (first | (with_reducible first | exact HB.out | apply below_alloc | apply pw_below_drewN | apply below_drew1) | exact HB.out))) : w.heap.size ≤ gb138)); clear HB; have HB := n0_; have BK138 := n1_; have GW138 := n2_; have GE138 := n3_; clear n0_ n1_ n2_ n3_; clear hb hbox hg) | ((with_reducible refine gate_dst (N := 3) rfl ?_); refine box_event ?hg (N := 3) ?hd (cs := #[.int .i64 a1_0, .string a1_1, .string a1_2]) (t := 48) ?hr ?_; (case hd => rfl); (case hg => rfl); (case hr => first | (go_simp; done) | (go_simp; rfl)); intro gb139 hg w7 hbox hb; have n0_ := Aside0.mk (blk_below (g := gb138) (o := .cells #[.int .i64 a0_0, .string a0_1, .string a0_2] 48 (0, 0)) (by (with_reducible repeat (first | refine blk_drewN ?_ _ | refine blk_drew ?_ | refine blk_alloc ?_ _)); exact BK138.out) hb); have n1_ := Aside0.mk (below_step (by repeat (first | (with_reducible first | exact HB.out | apply below_alloc | apply pw_below_drewN | apply below_drew1 | refine below_set ?_ GE138.out) | exact HB.out)) hb); have n2_ := Aside0.mk (hbox); have n3_ := Aside0.mk ((by rw [hg]; exact (below_size (by repeat (first | (with_reducible first | exact HB.out | apply below_alloc | apply pw_below_drewN | apply below_drew1 | refine below_set ?_ GE138.out) | exact HB.out))) : w.heap.size ≤ gb139)); have n4_ := Aside0.mk ((by rw [hg]; exact (below_size (by repeat (first | (with_reducible first | exact HB.out | apply below_alloc | apply pw_below_drewN | apply below_drew1 | refine below_set ?_ GE138.out) | exact HB.out))) : w.heap.size ≤ gb139)); have n5_ := Aside0.mk ((by rw [hg]; exact Nat.ne_of_lt (blk_lt (g := gb138) (o := .cells #[.int .i64 a0_0, .string a0_1, .string a0_2] 48 (0, 0)) (by (with_reducible repeat (first | refine blk_drewN ?_ _ | refine blk_drew ?_ | refine blk_alloc ?_ _)); exact BK138.out)) : gb138 ≠ gb139)); have n6_ := Aside0.mk ((by rw [hg]; exact Nat.ne_of_gt (blk_lt (g := gb138) (o := .cells #[.int .i64 a0_0, .string a0_1, .string a0_2] 48 (0, 0)) (by (with_reducible repeat (first | refine blk_drewN ?_ _ | refine blk_drew ?_ | refine blk_alloc ?_ _)); exact BK138.out)) : gb139 ≠ gb138)); clear BK138; clear HB; have BK138 := n0_; have HB := n1_; have BK139 := n2_; have GW139 := n3_; have GE139 := n4_; have NB138_139 := n5_; have NB139_138 := n6_; clear n0_ n1_ n2_ n3_ n4_ n5_ n6_; clear hb hbox hg; have hnb8 := NB138_139.out; have hnc8 := NB139_138.out; have hcz9_0 : w7.cell? ⟨gb138, 0, none⟩ = some (.int .i64 a0_0) := (blk_cell BK138.out 0).trans rfl; have hcz9_1 : w7.cell? ⟨gb138, 1, none⟩ = some (.string a0_1) := (blk_cell BK138.out 1).trans rfl; have hcz9_2 : w7.cell? ⟨gb138, 2, none⟩ = some (.string a0_2) := (blk_cell BK138.out 2).trans rfl; have hfz9_0 := blk_frozen BK138.out 0; have hfz9_1 := blk_frozen BK138.out 1; have hfz9_2 := blk_frozen BK138.out 2; have hcz10_0 : w7.cell? ⟨gb139, 0, none⟩ = some (.int .i64 a1_0) := (blk_cell BK139.out 0).trans rfl; have hcz10_1 : w7.cell? ⟨gb139, 1, none⟩ = some (.string a1_1) := (blk_cell BK139.out 1).trans rfl; have hcz10_2 : w7.cell? ⟨gb139, 2, none⟩ = some (.string a1_2) := (blk_cell BK139.out 2).trans rfl; have hfz10_0 := blk_frozen BK139.out 0; have hfz10_1 := blk_frozen BK139.out 1; have hfz10_2 := blk_frozen BK139.out 2))
        go_ret
        exact ⟨by first | rfl | (simp [errW_none, errW_some] <;> rfl) | (simp [*, errW_none, errW_some] <;> rfl), by repeat (first | (with_reducible first | exact HB.out | apply below_alloc | apply pw_below_drewN | apply below_drew1 | refine below_set ?_ GE138.out | refine below_set ?_ GE139.out) | exact HB.out)⟩
      · rw [if_neg c5] at H
        have c5b0 : (a0_2.toList == a1_2.toList) = false := beq_eq_false_iff_ne.mpr c5
        have c5b1 : (a0_2.toList != a1_2.toList) = true := bne_iff_ne.mpr c5
        obtain rfl := Option.some.inj H
        go_enter Try.func53, Try.ntmps53
        go_wp2_with (first | ((with_reducible refine gate_dst (N := 2) rfl ?_); refine box_event ?hg (N := 2) ?hd (cs := #[.int .i64 a0_0, .string a0_1, .string a0_2]) (t := 48) ?hr ?_; (case hd => rfl); (case hg => rfl); (case hr => first | (go_simp; done) | (go_simp; rfl)); intro gb138 hg w11 hbox hb; have n0_ := Aside0.mk (below_step (by repeat (first | (with_reducible first | exact HB.out | apply below_alloc | apply pw_below_drewN | apply below_drew1) | exact HB.out)) hb); have n1_ := Aside0.mk (hbox); have n2_ := Aside0.mk ((by rw [hg]; exact (below_size (by repeat (first | (with_reducible first | exact HB.out | apply below_alloc | apply pw_below_drewN | apply below_drew1) | exact HB.out))) : w.heap.size ≤ gb138)); have n3_ := Aside0.mk ((by rw [hg]; exact (below_size (by repeat (first | (with_reducible first | exact HB.out | apply below_alloc | apply pw_below_drewN | apply below_drew1) | exact HB.out))) : w.heap.size ≤ gb138)); clear HB; have HB := n0_; have BK138 := n1_; have GW138 := n2_; have GE138 := n3_; clear n0_ n1_ n2_ n3_; clear hb hbox hg) | ((with_reducible refine gate_dst (N := 3) rfl ?_); refine box_event ?hg (N := 3) ?hd (cs := #[.int .i64 a1_0, .string a1_1, .string a1_2]) (t := 48) ?hr ?_; (case hd => rfl); (case hg => rfl); (case hr => first | (go_simp; done) | (go_simp; rfl)); intro gb139 hg w12 hbox hb; have n0_ := Aside0.mk (blk_below (g := gb138) (o := .cells #[.int .i64 a0_0, .string a0_1, .string a0_2] 48 (0, 0)) (by (with_reducible repeat (first | refine blk_drewN ?_ _ | refine blk_drew ?_ | refine blk_alloc ?_ _)); exact BK138.out) hb); have n1_ := Aside0.mk (below_step (by repeat (first | (with_reducible first | exact HB.out | apply below_alloc | apply pw_below_drewN | apply below_drew1 | refine below_set ?_ GE138.out) | exact HB.out)) hb); have n2_ := Aside0.mk (hbox); have n3_ := Aside0.mk ((by rw [hg]; exact (below_size (by repeat (first | (with_reducible first | exact HB.out | apply below_alloc | apply pw_below_drewN | apply below_drew1 | refine below_set ?_ GE138.out) | exact HB.out))) : w.heap.size ≤ gb139)); have n4_ := Aside0.mk ((by rw [hg]; exact (below_size (by repeat (first | (with_reducible first | exact HB.out | apply below_alloc | apply pw_below_drewN | apply below_drew1 | refine below_set ?_ GE138.out) | exact HB.out))) : w.heap.size ≤ gb139)); have n5_ := Aside0.mk ((by rw [hg]; exact Nat.ne_of_lt (blk_lt (g := gb138) (o := .cells #[.int .i64 a0_0, .string a0_1, .string a0_2] 48 (0, 0)) (by (with_reducible repeat (first | refine blk_drewN ?_ _ | refine blk_drew ?_ | refine blk_alloc ?_ _)); exact BK138.out)) : gb138 ≠ gb139)); have n6_ := Aside0.mk ((by rw [hg]; exact Nat.ne_of_gt (blk_lt (g := gb138) (o := .cells #[.int .i64 a0_0, .string a0_1, .string a0_2] 48 (0, 0)) (by (with_reducible repeat (first | refine blk_drewN ?_ _ | refine blk_drew ?_ | refine blk_alloc ?_ _)); exact BK138.out)) : gb139 ≠ gb138)); clear BK138; clear HB; have BK138 := n0_; have HB := n1_; have BK139 := n2_; have GW139 := n3_; have GE139 := n4_; have NB138_139 := n5_; have NB139_138 := n6_; clear n0_ n1_ n2_ n3_ n4_ n5_ n6_; clear hb hbox hg; have hnb13 := NB138_139.out; have hnc13 := NB139_138.out; have hcz14_0 : w12.cell? ⟨gb138, 0, none⟩ = some (.int .i64 a0_0) := (blk_cell BK138.out 0).trans rfl; have hcz14_1 : w12.cell? ⟨gb138, 1, none⟩ = some (.string a0_1) := (blk_cell BK138.out 1).trans rfl; have hcz14_2 : w12.cell? ⟨gb138, 2, none⟩ = some (.string a0_2) := (blk_cell BK138.out 2).trans rfl; have hfz14_0 := blk_frozen BK138.out 0; have hfz14_1 := blk_frozen BK138.out 1; have hfz14_2 := blk_frozen BK138.out 2; have hcz15_0 : w12.cell? ⟨gb139, 0, none⟩ = some (.int .i64 a1_0) := (blk_cell BK139.out 0).trans rfl; have hcz15_1 : w12.cell? ⟨gb139, 1, none⟩ = some (.string a1_1) := (blk_cell BK139.out 1).trans rfl; have hcz15_2 : w12.cell? ⟨gb139, 2, none⟩ = some (.string a1_2) := (blk_cell BK139.out 2).trans rfl; have hfz15_0 := blk_frozen BK139.out 0; have hfz15_1 := blk_frozen BK139.out 1; have hfz15_2 := blk_frozen BK139.out 2))
        go_ret
        exact ⟨by first | rfl | (simp [errW_none, errW_some] <;> rfl) | (simp [*, errW_none, errW_some] <;> rfl), by repeat (first | (with_reducible first | exact HB.out | apply below_alloc | apply pw_below_drewN | apply below_drew1 | refine below_set ?_ GE138.out | refine below_set ?_ GE139.out) | exact HB.out)⟩
    · rw [if_neg c4] at H
      have c4b0 : (a0_1.toList == a1_1.toList) = false := beq_eq_false_iff_ne.mpr c4
      have c4b1 : (a0_1.toList != a1_1.toList) = true := bne_iff_ne.mpr c4
      obtain rfl := Option.some.inj H
      go_enter Try.func53, Try.ntmps53
      go_wp2_with (first | ((with_reducible refine gate_dst (N := 2) rfl ?_); refine box_event ?hg (N := 2) ?hd (cs := #[.int .i64 a0_0, .string a0_1, .string a0_2]) (t := 48) ?hr ?_; (case hd => rfl); (case hg => rfl); (case hr => first | (go_simp; done) | (go_simp; rfl)); intro gb138 hg w16 hbox hb; have n0_ := Aside0.mk (below_step (by repeat (first | (with_reducible first | exact HB.out | apply below_alloc | apply pw_below_drewN | apply below_drew1) | exact HB.out)) hb); have n1_ := Aside0.mk (hbox); have n2_ := Aside0.mk ((by rw [hg]; exact (below_size (by repeat (first | (with_reducible first | exact HB.out | apply below_alloc | apply pw_below_drewN | apply below_drew1) | exact HB.out))) : w.heap.size ≤ gb138)); have n3_ := Aside0.mk ((by rw [hg]; exact (below_size (by repeat (first | (with_reducible first | exact HB.out | apply below_alloc | apply pw_below_drewN | apply below_drew1) | exact HB.out))) : w.heap.size ≤ gb138)); clear HB; have HB := n0_; have BK138 := n1_; have GW138 := n2_; have GE138 := n3_; clear n0_ n1_ n2_ n3_; clear hb hbox hg) | ((with_reducible refine gate_dst (N := 3) rfl ?_); refine box_event ?hg (N := 3) ?hd (cs := #[.int .i64 a1_0, .string a1_1, .string a1_2]) (t := 48) ?hr ?_; (case hd => rfl); (case hg => rfl); (case hr => first | (go_simp; done) | (go_simp; rfl)); intro gb139 hg w17 hbox hb; have n0_ := Aside0.mk (blk_below (g := gb138) (o := .cells #[.int .i64 a0_0, .string a0_1, .string a0_2] 48 (0, 0)) (by (with_reducible repeat (first | refine blk_drewN ?_ _ | refine blk_drew ?_ | refine blk_alloc ?_ _)); exact BK138.out) hb); have n1_ := Aside0.mk (below_step (by repeat (first | (with_reducible first | exact HB.out | apply below_alloc | apply pw_below_drewN | apply below_drew1 | refine below_set ?_ GE138.out) | exact HB.out)) hb); have n2_ := Aside0.mk (hbox); have n3_ := Aside0.mk ((by rw [hg]; exact (below_size (by repeat (first | (with_reducible first | exact HB.out | apply below_alloc | apply pw_below_drewN | apply below_drew1 | refine below_set ?_ GE138.out) | exact HB.out))) : w.heap.size ≤ gb139)); have n4_ := Aside0.mk ((by rw [hg]; exact (below_size (by repeat (first | (with_reducible first | exact HB.out | apply below_alloc | apply pw_below_drewN | apply below_drew1 | refine below_set ?_ GE138.out) | exact HB.out))) : w.heap.size ≤ gb139)); have n5_ := Aside0.mk ((by rw [hg]; exact Nat.ne_of_lt (blk_lt (g := gb138) (o := .cells #[.int .i64 a0_0, .string a0_1, .string a0_2] 48 (0, 0)) (by (with_reducible repeat (first | refine blk_drewN ?_ _ | refine blk_drew ?_ | refine blk_alloc ?_ _)); exact BK138.out)) : gb138 ≠ gb139)); have n6_ := Aside0.mk ((by rw [hg]; exact Nat.ne_of_gt (blk_lt (g := gb138) (o := .cells #[.int .i64 a0_0, .string a0_1, .string a0_2] 48 (0, 0)) (by (with_reducible repeat (first | refine blk_drewN ?_ _ | refine blk_drew ?_ | refine blk_alloc ?_ _)); exact BK138.out)) : gb139 ≠ gb138)); clear BK138; clear HB; have BK138 := n0_; have HB := n1_; have BK139 := n2_; have GW139 := n3_; have GE139 := n4_; have NB138_139 := n5_; have NB139_138 := n6_; clear n0_ n1_ n2_ n3_ n4_ n5_ n6_; clear hb hbox hg; have hnb18 := NB138_139.out; have hnc18 := NB139_138.out; have hcz19_0 : w17.cell? ⟨gb138, 0, none⟩ = some (.int .i64 a0_0) := (blk_cell BK138.out 0).trans rfl; have hcz19_1 : w17.cell? ⟨gb138, 1, none⟩ = some (.string a0_1) := (blk_cell BK138.out 1).trans rfl; have hcz19_2 : w17.cell? ⟨gb138, 2, none⟩ = some (.string a0_2) := (blk_cell BK138.out 2).trans rfl; have hfz19_0 := blk_frozen BK138.out 0; have hfz19_1 := blk_frozen BK138.out 1; have hfz19_2 := blk_frozen BK138.out 2; have hcz20_0 : w17.cell? ⟨gb139, 0, none⟩ = some (.int .i64 a1_0) := (blk_cell BK139.out 0).trans rfl; have hcz20_1 : w17.cell? ⟨gb139, 1, none⟩ = some (.string a1_1) := (blk_cell BK139.out 1).trans rfl; have hcz20_2 : w17.cell? ⟨gb139, 2, none⟩ = some (.string a1_2) := (blk_cell BK139.out 2).trans rfl; have hfz20_0 := blk_frozen BK139.out 0; have hfz20_1 := blk_frozen BK139.out 1; have hfz20_2 := blk_frozen BK139.out 2))
      go_ret
      exact ⟨by first | rfl | (simp [errW_none, errW_some] <;> rfl) | (simp [*, errW_none, errW_some] <;> rfl), by repeat (first | (with_reducible first | exact HB.out | apply below_alloc | apply pw_below_drewN | apply below_drew1 | refine below_set ?_ GE138.out | refine below_set ?_ GE139.out) | exact HB.out)⟩
  · rw [if_neg c3] at H
    have c3b0 : (a0_0 == a1_0) = false := beq_eq_false_iff_ne.mpr c3
    have c3b1 : (a0_0 != a1_0) = true := bne_iff_ne.mpr c3
    obtain rfl := Option.some.inj H
    go_enter Try.func53, Try.ntmps53
    go_wp2_with (first | ((with_reducible refine gate_dst (N := 2) rfl ?_); refine box_event ?hg (N := 2) ?hd (cs := #[.int .i64 a0_0, .string a0_1, .string a0_2]) (t := 48) ?hr ?_; (case hd => rfl); (case hg => rfl); (case hr => first | (go_simp; done) | (go_simp; rfl)); intro gb138 hg w21 hbox hb; have n0_ := Aside0.mk (below_step (by repeat (first | (with_reducible first | exact HB.out | apply below_alloc | apply pw_below_drewN | apply below_drew1) | exact HB.out)) hb); have n1_ := Aside0.mk (hbox); have n2_ := Aside0.mk ((by rw [hg]; exact (below_size (by repeat (first | (with_reducible first | exact HB.out | apply below_alloc | apply pw_below_drewN | apply below_drew1) | exact HB.out))) : w.heap.size ≤ gb138)); have n3_ := Aside0.mk ((by rw [hg]; exact (below_size (by repeat (first | (with_reducible first | exact HB.out | apply below_alloc | apply pw_below_drewN | apply below_drew1) | exact HB.out))) : w.heap.size ≤ gb138)); clear HB; have HB := n0_; have BK138 := n1_; have GW138 := n2_; have GE138 := n3_; clear n0_ n1_ n2_ n3_; clear hb hbox hg) | ((with_reducible refine gate_dst (N := 3) rfl ?_); refine box_event ?hg (N := 3) ?hd (cs := #[.int .i64 a1_0, .string a1_1, .string a1_2]) (t := 48) ?hr ?_; (case hd => rfl); (case hg => rfl); (case hr => first | (go_simp; done) | (go_simp; rfl)); intro gb139 hg w22 hbox hb; have n0_ := Aside0.mk (blk_below (g := gb138) (o := .cells #[.int .i64 a0_0, .string a0_1, .string a0_2] 48 (0, 0)) (by (with_reducible repeat (first | refine blk_drewN ?_ _ | refine blk_drew ?_ | refine blk_alloc ?_ _)); exact BK138.out) hb); have n1_ := Aside0.mk (below_step (by repeat (first | (with_reducible first | exact HB.out | apply below_alloc | apply pw_below_drewN | apply below_drew1 | refine below_set ?_ GE138.out) | exact HB.out)) hb); have n2_ := Aside0.mk (hbox); have n3_ := Aside0.mk ((by rw [hg]; exact (below_size (by repeat (first | (with_reducible first | exact HB.out | apply below_alloc | apply pw_below_drewN | apply below_drew1 | refine below_set ?_ GE138.out) | exact HB.out))) : w.heap.size ≤ gb139)); have n4_ := Aside0.mk ((by rw [hg]; exact (below_size (by repeat (first | (with_reducible first | exact HB.out | apply below_alloc | apply pw_below_drewN | apply below_drew1 | refine below_set ?_ GE138.out) | exact HB.out))) : w.heap.size ≤ gb139)); have n5_ := Aside0.mk ((by rw [hg]; exact Nat.ne_of_lt (blk_lt (g := gb138) (o := .cells #[.int .i64 a0_0, .string a0_1, .string a0_2] 48 (0, 0)) (by (with_reducible repeat (first | refine blk_drewN ?_ _ | refine blk_drew ?_ | refine blk_alloc ?_ _)); exact BK138.out)) : gb138 ≠ gb139)); have n6_ := Aside0.mk ((by rw [hg]; exact Nat.ne_of_gt (blk_lt (g := gb138) (o := .cells #[.int .i64 a0_0, .string a0_1, .string a0_2] 48 (0, 0)) (by (with_reducible repeat (first | refine blk_drewN ?_ _ | refine blk_drew ?_ | refine blk_alloc ?_ _)); exact BK138.out)) : gb139 ≠ gb138)); clear BK138; clear HB; have BK138 := n0_; have HB := n1_; have BK139 := n2_; have GW139 := n3_; have GE139 := n4_; have NB138_139 := n5_; have NB139_138 := n6_; clear n0_ n1_ n2_ n3_ n4_ n5_ n6_; clear hb hbox hg; have hnb23 := NB138_139.out; have hnc23 := NB139_138.out; have hcz24_0 : w22.cell? ⟨gb138, 0, none⟩ = some (.int .i64 a0_0) := (blk_cell BK138.out 0).trans rfl; have hcz24_1 : w22.cell? ⟨gb138, 1, none⟩ = some (.string a0_1) := (blk_cell BK138.out 1).trans rfl; have hcz24_2 : w22.cell? ⟨gb138, 2, none⟩ = some (.string a0_2) := (blk_cell BK138.out 2).trans rfl; have hfz24_0 := blk_frozen BK138.out 0; have hfz24_1 := blk_frozen BK138.out 1; have hfz24_2 := blk_frozen BK138.out 2; have hcz25_0 : w22.cell? ⟨gb139, 0, none⟩ = some (.int .i64 a1_0) := (blk_cell BK139.out 0).trans rfl; have hcz25_1 : w22.cell? ⟨gb139, 1, none⟩ = some (.string a1_1) := (blk_cell BK139.out 1).trans rfl; have hcz25_2 : w22.cell? ⟨gb139, 2, none⟩ = some (.string a1_2) := (blk_cell BK139.out 2).trans rfl; have hfz25_0 := blk_frozen BK139.out 0; have hfz25_1 := blk_frozen BK139.out 1; have hfz25_2 := blk_frozen BK139.out 2))
    go_ret
    exact ⟨by first | rfl | (simp [errW_none, errW_some] <;> rfl) | (simp [*, errW_none, errW_some] <;> rfl), by repeat (first | (with_reducible first | exact HB.out | apply below_alloc | apply pw_below_drewN | apply below_drew1 | refine below_set ?_ GE138.out | refine below_set ?_ GE139.out) | exact HB.out)⟩

end Go.Proofs.Ytipbllegjcedgaa.QFnExactMatchesPut
