/- What CheckTold needs. -/
import Derived.Test.YtgfiglcmhlbjjaaGreatQCheckToldNpB
import Derived.Test.YtgfiglcmhlbjjaaGreatProg
import Derived.Test.YtgfiglcmhlbjjaaGreatQCheckToldClone
import Derived.Test.YtgfiglcmhlbjjaaGreatQCheckToldNpD
import Derived.Test.YtgfiglcmhlbjjaaGreatQCheckToldSortC
import Derived.DeepKeys4
import Derived.KernelRfl
import Derived.Deep.QuietTactic
import Derived.Deep.RegionLaw
import Derived.BigQuiet
set_option linter.unusedVariables false
set_option linter.unusedSimpArgs false
namespace Go.Np
theorem keyOk_law {κ : Type} {P : Program} {k : TypeId} {kE : κ → Value} (L : WideMaps.KeyLaw P k) (hk : ∀ a, ∃ l, keyOf P k (kE a) = some l) (inj : ∀ {a b}, kE a = kE b → a = b) : KeyOk P k kE where
  inj := inj
  check w em a := by obtain ⟨l, hl⟩ := hk a; exact L.check w em hl
  find w a es hes := by
    obtain ⟨l, hl⟩ := hk a
    exact L.find w hl es (fun e he => by obtain ⟨b, hb⟩ := hes e he; rw [hb]; exact hk b)
  stays w a := by obtain ⟨l, hl⟩ := hk a; exact L.stays w hl
end Go.Np
namespace Go.Np.Tryz
open Go.Proofs
abbrev wf64 (x : Int) : Prop := (Lit.int .i64 x).wf = true
abbrev Bal := { b : Int × Int × Int // wf64 b.1 ∧ wf64 b.2.1 ∧ wf64 b.2.2 }
def balE (b : Bal) : Value := .agg #[.int .i64 b.1.1, .int .i64 b.1.2.1, .int .i64 b.1.2.2]
theorem balE_inj {a b : Bal} (h : balE a = balE b) : a = b := by
  obtain ⟨⟨a1, a2, a3⟩, ha⟩ := a
  obtain ⟨⟨b1, b2, b3⟩, hb⟩ := b
  simp [balE] at h
  obtain ⟨rfl, rfl, rfl⟩ := h
  rfl
theorem bal_law : WideMaps.KeyLaw Tryz.prog 113 := deep_law_laid (m := 3) (by kernel_rfl) (by omega) (of_decide_eq_true (by kernel_rfl)) (by kernel_rfl) (by kernel_rfl)
theorem bal_key (b : Bal) : ∃ l, keyOf Tryz.prog 113 (balE b) = some l := by
  obtain ⟨⟨b1, b2, b3⟩, h1, h2, h3⟩ := b
  have e1 : Tryz.prog.keyType 113 = true := by kernel_rfl
  have e2 : Tryz.prog.cellsOf 113 = 3 := by kernel_rfl
  have e3 : Tryz.prog.cellsOf 3 = 1 := by kernel_rfl
  obtain ⟨m, hm⟩ : ∃ m, Tryz.prog.types.size = m + 1 := ⟨Tryz.prog.types.size - 1, by kernel_rfl⟩
  unfold keyOf
  rw [Tryz.underlying113]
  simp only [e1, Bool.true_and]
  have e4 : (Value.agg #[.int .i64 b1, .int .i64 b2, .int .i64 b3]).formed Tryz.prog 113 = true := by
    simp [Value.formed, Tryz.underlying113, e2]
  rw [show balE ⟨(b1, b2, b3), h1, h2, h3⟩ = .agg #[.int .i64 b1, .int .i64 b2, .int .i64 b3] from rfl, if_pos e4, hm]
  simp [Program.keyLits, Tryz.underlying113, Tryz.underlying3, e2, e3, Value.cells, h1, h2, h3]
theorem bal_ok : KeyOk Tryz.prog 113 balE := keyOk_law bal_law bal_key balE_inj
end Go.Np.Tryz
set_option linter.unusedVariables false
set_option linter.unusedSimpArgs false
namespace Go.Np.Tryz
open Go.RowKit Go.Proofs Go.Proofs.YtgfiglcmhlbjjaaGreatW.PrintWords
def encV (q : Bal × Int) : Bal × Value := (q.1, .int .i64 q.2)
structure TlAt (w0 w : World) (p b : Nat) (A : Option Addr) (c : Nat) (st : List Int) (m : List (Bal × Int)) : Prop where
  obj : w.heap[p]? = some (.cells #[.slice A st.length c, .map (some b)] 116 (0, 0))
  map : MapIs balE w b (m.map encV)
  row : (Kd.int .i64).C w A st.length st
  cap : st.length ≤ c
  fr : Fr [] w0 w
  p0 : w0.heap.size ≤ p
  b0 : w0.heap.size ≤ b
def Tl (w0 w : World) (p : Nat) (st : List Int) (m : List (Bal × Int)) : Prop := ∃ b A c, TlAt w0 w p b A c st m
theorem TlAt.step {w0 w w' : World} {p b : Nat} {A : Option Addr} {c : Nat} {st : List Int} {m : List (Bal × Int)} (h : TlAt w0 w p b A c st m) (hF : Fr [] w w') : TlAt w0 w' p b A c st m :=
  ⟨(hF.block p (Array.getElem?_eq_some_iff.1 h.obj).1 (by simp)).trans h.obj, h.map.fr hF (by simp), Kd.C_below h.row hF.below, h.cap, h.fr.trans hF (by simp), h.p0, h.b0⟩
theorem Tl.step {w0 w w' : World} {p : Nat} {st : List Int} {m : List (Bal × Int)} (h : Tl w0 w p st m) (hF : Fr [] w w') : Tl w0 w' p st m := by
  obtain ⟨b, A, c, h⟩ := h; exact ⟨b, A, c, h.step hF⟩
theorem Tl.base {w0 w1 w : World} {p : Nat} {st : List Int} {m : List (Bal × Int)} (h : Tl w1 w p st m) (hF : Fr [] w0 w1) : Tl w0 w p st m := by
  obtain ⟨b, A, c, h⟩ := h
  exact ⟨b, A, c, h.obj, h.map, h.row, h.cap, hF.trans h.fr (by simp), Nat.le_trans hF.size h.p0, Nat.le_trans hF.size h.b0⟩
theorem alook_encV (m : List (Bal × Int)) (k : Bal) : alook (m.map encV) k = (alook m k).map (Value.int .i64) := by
  induction m with
  | nil => rfl
  | cons q m ih =>
    obtain ⟨a, x⟩ := q
    by_cases h : a = k <;> simp [alook, encV, h]
    exact ih
theorem zeroI (w : World) : (zeroValue 3).run Tryz.prog w = .ok (.int .i64 0) w := by kernel_rfl
theorem TlAt.look {w0 w : World} {p b : Nat} {A : Option Addr} {c : Nat} {st : List Int} {m : List (Bal × Int)} (h : TlAt w0 w p b A c st m) (k : Bal) :
    (Instr.lookup 114 (.map (some b)) (balE k) true).run Tryz.prog w = .ok (.tuple #[.int .i64 ((alook m k).getD 0), .bool (alook m k).isSome]) w := by
  have := h.map.run_lookup bal_ok Tryz.underlying114 (zeroI w) k true
  rw [alook_encV] at this
  rw [this]
  cases alook m k <;> rfl
set_option maxHeartbeats 1000000 in
set_option maxRecDepth 100000 in
theorem tvote_calls {w0 w : World} {p : Nat} {st : List Int} {m : List (Bal × Int)} (h : Tl w0 w p st m) (k : Bal) :
    Calls Tryz.prog 54 #[.pointer (some ⟨p, 0, none⟩), .int .i64 k.1.1, .int .i64 k.1.2.1, .int .i64 k.1.2.2] w fun e w' => e = .returned (.tuple #[.int .i64 ((alook m k).getD 0), .bool (alook m k).isSome]) ∧ ∃ n, w' = w.drewN n := by
  obtain ⟨b, A, c, h⟩ := h
  have c1 : w.cell? ⟨p, 1, none⟩ = some (.map (some b)) := cell_of h.obj 1
  have hl := h.look k
  simp only [balE] at hl
  obtain ⟨x, hx⟩ : ∃ x, x = (alook m k).getD 0 := ⟨_, rfl⟩
  obtain ⟨y, hy⟩ : ∃ y, y = (alook m k).isSome := ⟨_, rfl⟩
  rw [← hx, ← hy] at hl ⊢
  clear h hx hy
  refine calls_k fun R hR => ?_
  go_enter Tryz.func54, Tryz.ntmps54
  go_wp2
  exact hR.out _ _ ⟨rfl, 0, rfl⟩
def addB (st : List Int) (m : List (Bal × Int)) (k : Bal) (x : Int) : Bool :=
  (alook m k).isNone && (decide (k.1.1 = 4) || decide (k.1.1 = 5)) && decide (0 ≤ k.1.2.1) && decide (k.1.2.1 ≤ 1000) && decide (0 ≤ k.1.2.2) && decide (k.1.2.2 < st.length) && decide (-1 ≤ x)
theorem lt_cell {w : World} {a : Addr} {v : Value} (h : w.cell? a = some v) : a.block < w.heap.size := by
  unfold World.cell? at h
  cases hb : w.heap[a.block]? with
  | none => simp [hb] at h
  | some o => exact (Array.getElem?_eq_some_iff.1 hb).1
theorem TlAt.ne {w0 w : World} {p b : Nat} {A : Option Addr} {c : Nat} {st : List Int} {m : List (Bal × Int)} (h : TlAt w0 w p b A c st m) : p ≠ b := by
  rintro rfl
  obtain ⟨es, cl, h1, _⟩ := h.map
  rw [h.obj] at h1
  cases h1
theorem TlAt.rowmap {w0 w w' : World} {p b : Nat} {A : Option Addr} {c : Nat} {st : List Int} {m : List (Bal × Int)} (h : TlAt w0 w p b A c st m) (hF : Fr [b] w w') : (Kd.int .i64).C w' A st.length st := by
  obtain ⟨es, cl, h1, _⟩ := h.map
  refine ⟨rfl, h.row.2.1, fun h0 => ?_⟩
  obtain ⟨ad, e, hc⟩ := h.row.2.2 h0
  refine ⟨ad, e, fun j q hq => ?_⟩
  obtain ⟨cs, g1, g2, g3⟩ := hc j q hq
  refine ⟨cs, g1, g2, fun i u hu => ?_⟩
  have h3 := g3 i u hu
  have hne : (ad.add (j * (Kd.int .i64).sz + i)).block ≠ b := by
    intro hb
    unfold World.cell? at h3
    rw [hb, h1] at h3
    simp at h3
  rw [hF.cell (lt_cell h3) (by simpa using hne)]
  exact h3
set_option maxHeartbeats 2000000 in
set_option maxRecDepth 100000 in
theorem tadd_calls {w0 w : World} {p b : Nat} {A : Option Addr} {c : Nat} {st : List Int} {m : List (Bal × Int)} (h : TlAt w0 w p b A c st m) (K V F : Int) (hwf : wf64 K ∧ wf64 V ∧ wf64 F) (x : Int) :
    Calls Tryz.prog 36 #[.pointer (some ⟨p, 0, none⟩), .int .i64 K, .int .i64 V, .int .i64 F, .int .i64 x] w fun e w' => e = .returned (.bool (addB st m ⟨(K, V, F), hwf⟩ x)) ∧ TlAt w0 w' p b A c st (if addB st m ⟨(K, V, F), hwf⟩ x then m ++ [(⟨(K, V, F), hwf⟩, x)] else m) ∧ Fr [b] w w' := by
  have p0 : ∀ w', Fr [] w w' → TlAt w0 w' p b A c st m ∧ Fr [b] w w' := fun w' hF => ⟨h.step hF, hF.mono (by simp)⟩
  obtain ⟨W1, hW1⟩ : ∃ W1, W1 = w.alloc (.cells #[.int .i64 K, .int .i64 V, .int .i64 F] 113 (0, 0)) := ⟨_, rfl⟩
  have hF1 : Fr [] w W1 := by rw [hW1]; exact (Fr.refl _ _).alloc _
  have h1 : TlAt w0 W1 p b A c st m := h.step hF1
  have p1 : Hid (∀ n, TlAt w0 (W1.drewN n) p b A c st m ∧ Fr [b] w (W1.drewN n)) := fun n => p0 _ (hF1.drewN n)
  have HFW1 := Lib.hid hF1
  have hbk : W1.heap[w.heap.size]? = some (.cells #[.int .i64 K, .int .i64 V, .int .i64 F] 113 (0, 0)) := by rw [hW1]; exact heap_alloc_new w _
  have c0 : W1.cell? ⟨p, 0, none⟩ = some (.slice A st.length c) := cell_of h1.obj 0
  have c1 : W1.cell? ⟨p, 1, none⟩ = some (.map (some b)) := cell_of h1.obj 1
  have k0 : W1.cell? ⟨w.heap.size, 0, none⟩ = some (.int .i64 K) := cell_of hbk 0
  have k1 : W1.cell? ⟨w.heap.size, 1, none⟩ = some (.int .i64 V) := cell_of hbk 1
  have k2 : W1.cell? ⟨w.heap.size, 2, none⟩ = some (.int .i64 F) := cell_of hbk 2
  have hl : ∀ n, (Instr.lookup 114 (.map (some b)) (.agg #[.int .i64 K, .int .i64 V, .int .i64 F]) true).run Tryz.prog (W1.drewN n) = .ok (.tuple #[.int .i64 ((alook m ⟨(K, V, F), hwf⟩).getD 0), .bool (alook m ⟨(K, V, F), hwf⟩).isSome]) (W1.drewN n) := fun n => (h1.step ((Fr.refl [] W1).drewN n)).look ⟨(K, V, F), hwf⟩
  have H1 := Lib.hid h1
  have hst : st.length ≤ 9223372036854775807 := h1.row.2.1
  refine calls_k fun R hR => ?_
  clear h h1 hbk hF1 p0
  cases hn : alook m ⟨(K, V, F), hwf⟩ with
  | some y =>
    have hA : addB st m ⟨(K, V, F), hwf⟩ x = false := by simp [addB, hn]
    rw [hA] at hR
    simp only [Bool.false_eq_true, if_false] at hR
    rw [hn] at hl
    clear hA hn
    go_enter Tryz.func36, Tryz.ntmps36
    go_upto_region 2 with (fail)
    rw [← hW1]
    clear hW1
    go_quiet (fail)
    go_wp2
    exact hR.out _ _ ⟨rfl, p1.out _⟩
  | none =>
    rw [hn] at hl
    by_cases hk4 : K = 4
    · subst hk4
      by_cases q5 : V < 0
      · have hA : addB st m ⟨(4, V, F), hwf⟩ x = false := by
          rw [← Bool.not_eq_true]
          simp only [addB, Bool.and_eq_true, Bool.or_eq_true, decide_eq_true_eq]
          omega
        rw [hA] at hR
        simp only [Bool.false_eq_true, if_false] at hR
        clear hA hn
        go_enter Tryz.func36, Tryz.ntmps36
        go_upto_region 2 with (fail)
        rw [← hW1]
        clear hW1
        go_quiet (fail)
        go_wp2
        exact hR.out _ _ ⟨rfl, p1.out _⟩
      · by_cases q4 : 1000 < V
        · have hA : addB st m ⟨(4, V, F), hwf⟩ x = false := by
            rw [← Bool.not_eq_true]
            simp only [addB, Bool.and_eq_true, Bool.or_eq_true, decide_eq_true_eq]
            omega
          rw [hA] at hR
          simp only [Bool.false_eq_true, if_false] at hR
          clear hA hn
          go_enter Tryz.func36, Tryz.ntmps36
          go_upto_region 2 with (fail)
          rw [← hW1]
          clear hW1
          go_quiet (fail)
          go_wp2
          exact hR.out _ _ ⟨rfl, p1.out _⟩
        · by_cases q3 : F < 0
          · have hA : addB st m ⟨(4, V, F), hwf⟩ x = false := by
              rw [← Bool.not_eq_true]
              simp only [addB, Bool.and_eq_true, Bool.or_eq_true, decide_eq_true_eq]
              omega
            rw [hA] at hR
            simp only [Bool.false_eq_true, if_false] at hR
            clear hA hn
            go_enter Tryz.func36, Tryz.ntmps36
            go_upto_region 2 with (fail)
            rw [← hW1]
            clear hW1
            go_quiet (fail)
            go_wp2
            exact hR.out _ _ ⟨rfl, p1.out _⟩
          · by_cases q2 : (st.length : Int) ≤ F
            · have hA : addB st m ⟨(4, V, F), hwf⟩ x = false := by
                rw [← Bool.not_eq_true]
                simp only [addB, Bool.and_eq_true, Bool.or_eq_true, decide_eq_true_eq]
                omega
              rw [hA] at hR
              simp only [Bool.false_eq_true, if_false] at hR
              clear hA hn
              go_enter Tryz.func36, Tryz.ntmps36
              go_upto_region 2 with (fail)
              rw [← hW1]
              clear hW1
              go_quiet (fail)
              go_wp2
              exact hR.out _ _ ⟨rfl, p1.out _⟩
            · by_cases q1 : x < -1
              · have hA : addB st m ⟨(4, V, F), hwf⟩ x = false := by
                  rw [← Bool.not_eq_true]
                  simp only [addB, Bool.and_eq_true, Bool.or_eq_true, decide_eq_true_eq]
                  omega
                rw [hA] at hR
                simp only [Bool.false_eq_true, if_false] at hR
                clear hA hn
                go_enter Tryz.func36, Tryz.ntmps36
                go_upto_region 2 with (fail)
                rw [← hW1]
                clear hW1
                go_quiet (fail)
                go_wp2
                exact hR.out _ _ ⟨rfl, p1.out _⟩
              · have hA : addB st m ⟨(4, V, F), hwf⟩ x = true := by
                  simp only [addB, hn, Option.isNone_none, Bool.true_and, Bool.and_eq_true, Bool.or_eq_true, decide_eq_true_eq]
                  refine ⟨⟨⟨⟨⟨?_, ?_⟩, ?_⟩, ?_⟩, ?_⟩, ?_⟩ <;> first | omega | simp
                rw [hA] at hR
                simp only [if_true] at hR
                have HN := Lib.hid hn
                clear hA hn
                go_enter Tryz.func36, Tryz.ntmps36
                go_upto_region 2 with (fail)
                rw [← hW1]
                clear hW1
                go_quiet (fail)
                go_wp2
                obtain ⟨w5, hrun, hm5, hF5, hs5⟩ := (H1.out.step (((Fr.refl [] W1).drewN (nq + 1)))).map.run_update bal_ok Tryz.underlying114 ⟨(4, V, F), hwf⟩ (.int .i64 x)
                have HM5 := Lib.hid hm5
                have HF5 := Lib.hid hF5
                simp only [balE] at hrun
                clear hm5 hF5 hs5
                go_region
                have hm5 := HM5.out
                have hF5 := HF5.out
                go_wp2
                have h2 := H1.out.step (((Fr.refl [] W1).drewN (nq + 1)))
                refine hR.out _ _ ⟨rfl, ⟨?_, ?_, ?_, h2.cap, ?_, h2.p0, h2.b0⟩, ((HFW1.out.drewN (nq + 1)).mono (T := [b]) (by simp)).trans hF5 (by simp)⟩
                · exact (hF5.block p (Array.getElem?_eq_some_iff.1 h2.obj).1 (by simp; exact h2.ne)).trans h2.obj
                · rw [aput_new (by rw [alook_encV, HN.out]; rfl)] at hm5
                  simpa [encV] using hm5
                · exact h2.rowmap hF5
                · exact h2.fr.trans hF5 (by simp; exact h2.b0)
    · by_cases hk5 : K = 5
      · subst hk5
        by_cases q5 : V < 0
        · have hA : addB st m ⟨(5, V, F), hwf⟩ x = false := by
            rw [← Bool.not_eq_true]
            simp only [addB, Bool.and_eq_true, Bool.or_eq_true, decide_eq_true_eq]
            omega
          rw [hA] at hR
          simp only [Bool.false_eq_true, if_false] at hR
          clear hA hn
          go_enter Tryz.func36, Tryz.ntmps36
          go_upto_region 2 with (fail)
          rw [← hW1]
          clear hW1
          go_quiet (fail)
          go_wp2
          exact hR.out _ _ ⟨rfl, p1.out _⟩
        · by_cases q4 : 1000 < V
          · have hA : addB st m ⟨(5, V, F), hwf⟩ x = false := by
              rw [← Bool.not_eq_true]
              simp only [addB, Bool.and_eq_true, Bool.or_eq_true, decide_eq_true_eq]
              omega
            rw [hA] at hR
            simp only [Bool.false_eq_true, if_false] at hR
            clear hA hn
            go_enter Tryz.func36, Tryz.ntmps36
            go_upto_region 2 with (fail)
            rw [← hW1]
            clear hW1
            go_quiet (fail)
            go_wp2
            exact hR.out _ _ ⟨rfl, p1.out _⟩
          · by_cases q3 : F < 0
            · have hA : addB st m ⟨(5, V, F), hwf⟩ x = false := by
                rw [← Bool.not_eq_true]
                simp only [addB, Bool.and_eq_true, Bool.or_eq_true, decide_eq_true_eq]
                omega
              rw [hA] at hR
              simp only [Bool.false_eq_true, if_false] at hR
              clear hA hn
              go_enter Tryz.func36, Tryz.ntmps36
              go_upto_region 2 with (fail)
              rw [← hW1]
              clear hW1
              go_quiet (fail)
              go_wp2
              exact hR.out _ _ ⟨rfl, p1.out _⟩
            · by_cases q2 : (st.length : Int) ≤ F
              · have hA : addB st m ⟨(5, V, F), hwf⟩ x = false := by
                  rw [← Bool.not_eq_true]
                  simp only [addB, Bool.and_eq_true, Bool.or_eq_true, decide_eq_true_eq]
                  omega
                rw [hA] at hR
                simp only [Bool.false_eq_true, if_false] at hR
                clear hA hn
                go_enter Tryz.func36, Tryz.ntmps36
                go_upto_region 2 with (fail)
                rw [← hW1]
                clear hW1
                go_quiet (fail)
                go_wp2
                exact hR.out _ _ ⟨rfl, p1.out _⟩
              · by_cases q1 : x < -1
                · have hA : addB st m ⟨(5, V, F), hwf⟩ x = false := by
                    rw [← Bool.not_eq_true]
                    simp only [addB, Bool.and_eq_true, Bool.or_eq_true, decide_eq_true_eq]
                    omega
                  rw [hA] at hR
                  simp only [Bool.false_eq_true, if_false] at hR
                  clear hA hn
                  go_enter Tryz.func36, Tryz.ntmps36
                  go_upto_region 2 with (fail)
                  rw [← hW1]
                  clear hW1
                  go_quiet (fail)
                  go_wp2
                  exact hR.out _ _ ⟨rfl, p1.out _⟩
                · have hA : addB st m ⟨(5, V, F), hwf⟩ x = true := by
                    simp only [addB, hn, Option.isNone_none, Bool.true_and, Bool.and_eq_true, Bool.or_eq_true, decide_eq_true_eq]
                    refine ⟨⟨⟨⟨⟨?_, ?_⟩, ?_⟩, ?_⟩, ?_⟩, ?_⟩ <;> first | omega | simp
                  rw [hA] at hR
                  simp only [if_true] at hR
                  have HN := Lib.hid hn
                  clear hA hn
                  go_enter Tryz.func36, Tryz.ntmps36
                  go_upto_region 2 with (fail)
                  rw [← hW1]
                  clear hW1
                  go_quiet (fail)
                  go_wp2
                  obtain ⟨w5, hrun, hm5, hF5, hs5⟩ := (H1.out.step (((Fr.refl [] W1).drewN (nq + 1)))).map.run_update bal_ok Tryz.underlying114 ⟨(5, V, F), hwf⟩ (.int .i64 x)
                  have HM5 := Lib.hid hm5
                  have HF5 := Lib.hid hF5
                  simp only [balE] at hrun
                  clear hm5 hF5 hs5
                  go_region
                  have hm5 := HM5.out
                  have hF5 := HF5.out
                  go_wp2
                  have h2 := H1.out.step (((Fr.refl [] W1).drewN (nq + 1)))
                  refine hR.out _ _ ⟨rfl, ⟨?_, ?_, ?_, h2.cap, ?_, h2.p0, h2.b0⟩, ((HFW1.out.drewN (nq + 1)).mono (T := [b]) (by simp)).trans hF5 (by simp)⟩
                  · exact (hF5.block p (Array.getElem?_eq_some_iff.1 h2.obj).1 (by simp; exact h2.ne)).trans h2.obj
                  · rw [aput_new (by rw [alook_encV, HN.out]; rfl)] at hm5
                    simpa [encV] using hm5
                  · exact h2.rowmap hF5
                  · exact h2.fr.trans hF5 (by simp; exact h2.b0)
      · have hA : addB st m ⟨(K, V, F), hwf⟩ x = false := by
          rw [← Bool.not_eq_true]
          simp only [addB, Bool.and_eq_true, Bool.or_eq_true, decide_eq_true_eq]
          omega
        rw [hA] at hR
        simp only [Bool.false_eq_true, if_false] at hR
        clear hA hn
        go_enter Tryz.func36, Tryz.ntmps36
        go_upto_region 2 with (fail)
        rw [← hW1]
        clear hW1
        go_quiet (fail)
        go_wp2
        exact hR.out _ _ ⟨rfl, p1.out _⟩
end Go.Np.Tryz
set_option linter.unusedVariables false
set_option linter.unusedSimpArgs false
namespace Go.Np
theorem strict_ext : ∀ (l l' : List Int), l.Pairwise (· < ·) → l'.Pairwise (· < ·) → (∀ x, x ∈ l ↔ x ∈ l') → l = l' := by
  intro l
  induction l with
  | nil =>
    intro l' _ _ h
    cases l' with
    | nil => rfl
    | cons y l' => exact absurd ((h y).2 List.mem_cons_self) (by simp)
  | cons x l ih =>
    intro l' h1 h2 h
    cases l' with
    | nil => exact absurd ((h x).1 List.mem_cons_self) (by simp)
    | cons y l' =>
      rw [List.pairwise_cons] at h1 h2
      have hxy : x = y := by
        rcases List.mem_cons.1 ((h x).1 List.mem_cons_self) with e | e
        · exact e
        · rcases List.mem_cons.1 ((h y).2 List.mem_cons_self) with e' | e'
          · exact e'.symm
          · have a := h2.1 x e
            have b := h1.1 y e'
            omega
      subst hxy
      rw [ih l' h1.2 h2.2 (fun z => ?_)]
      constructor
      · intro hz
        rcases List.mem_cons.1 ((h z).1 (List.mem_cons_of_mem _ hz)) with e | e
        · have := h1.1 z hz; omega
        · exact e
      · intro hz
        rcases List.mem_cons.1 ((h z).2 (List.mem_cons_of_mem _ hz)) with e | e
        · have := h2.1 z hz; omega
        · exact e
def uniq (l : List Int) : List Int := Go.Lib.compact (l.mergeSort fun x y => decide (x ≤ y))
theorem uniq_strict (l : List Int) : (uniq l).Pairwise (· < ·) := (compact_props _ _ rfl (sorted_ms l)).1
theorem uniq_mem (l : List Int) (x : Int) : x ∈ uniq l ↔ x ∈ l := by
  rw [uniq, (compact_props _ _ rfl (sorted_ms l)).2.1 x]
  exact (List.mergeSort_perm l _).mem_iff
theorem uniq_perm {l l' : List Int} (h : ∀ x, x ∈ l ↔ x ∈ l') : uniq l = uniq l' := strict_ext _ _ (uniq_strict l) (uniq_strict l') (fun x => by rw [uniq_mem, uniq_mem, h x])
end Go.Np
namespace Go.Np.Tryz
open Go.RowKit Go.Proofs
def selP (H : Bal → Int → Bool) (m : List (Bal × Int)) : List Int := m.filterMap fun q => if H q.1 q.2 then some q.1.1.2.2 else none
def whoP (H : Bal → Int → Bool) (m : List (Bal × Int)) : List Int := uniq (selP H m)
theorem mem_selP {H : Bal → Int → Bool} {m : List (Bal × Int)} {f : Int} : f ∈ selP H m ↔ ∃ q ∈ m, H q.1 q.2 = true ∧ q.1.1.2.2 = f := by
  unfold selP
  rw [List.mem_filterMap]
  constructor
  · rintro ⟨q, hq, h⟩
    split at h
    · exact ⟨q, hq, by assumption, by simpa using h⟩
    · cases h
  · rintro ⟨q, hq, h1, h2⟩
    exact ⟨q, hq, by rw [if_pos h1, h2]⟩
theorem selP_append (H : Bal → Int → Bool) (a b : List (Bal × Int)) : selP H (a ++ b) = selP H a ++ selP H b := List.filterMap_append
end Go.Np.Tryz
set_option linter.unusedVariables false
set_option linter.unusedSimpArgs false
namespace Go.Np.Tryz
open Go.RowKit Go.Proofs
def hWho (k v x : Int) : Bal → Int → Bool := fun q y => decide (q.1.1 = k) && decide (q.1.2.1 = v) && decide (y = x)
def hAll (k v : Int) : Bal → Int → Bool := fun q y => decide (q.1.1 = k) && decide (q.1.2.1 = v)
def hAhead (v : Int) : Bal → Int → Bool := fun q y => decide (v ≤ q.1.2.1)
set_option maxHeartbeats 1000000 in
set_option maxRecDepth 100000 in
theorem cWho {w : World} {p1 p2 p3 : Nat} {k v x : Int} (h1 : w.cell? ⟨p1, 0, none⟩ = some (.int .i64 k)) (h2 : w.cell? ⟨p2, 0, none⟩ = some (.int .i64 v)) (h3 : w.cell? ⟨p3, 0, none⟩ = some (.int .i64 x)) (q : Bal) (y : Int) :
    Calls Tryz.prog 88 #[balE q, .int .i64 y, .pointer (some ⟨p1, 0, none⟩), .pointer (some ⟨p2, 0, none⟩), .pointer (some ⟨p3, 0, none⟩)] w fun e w' => e = .returned (.bool (hWho k v x q y)) ∧ Fr [] w w' := by
  obtain ⟨⟨K, V, F⟩, hq⟩ := q
  have b1 : p1 < w.heap.size := lt_cell h1
  have b2 : p2 < w.heap.size := lt_cell h2
  have b3 : p3 < w.heap.size := lt_cell h3
  obtain ⟨W, hW⟩ : ∃ W, W = w.alloc (.cells #[.int .i64 K, .int .i64 V, .int .i64 F] 113 (0, 0)) := ⟨_, rfl⟩
  have hF : Fr [] w W := by rw [hW]; exact (Fr.refl _ _).alloc _
  have g1 := (hF.cell b1 (by simp)).trans h1
  have g2 := (hF.cell b2 (by simp)).trans h2
  have g3 := (hF.cell b3 (by simp)).trans h3
  have hb : W.heap[w.heap.size]? = some (.cells #[.int .i64 K, .int .i64 V, .int .i64 F] 113 (0, 0)) := by rw [hW]; exact heap_alloc_new w _
  have k0 : W.cell? ⟨w.heap.size, 0, none⟩ = some (.int .i64 K) := cell_of hb 0
  have k1 : W.cell? ⟨w.heap.size, 1, none⟩ = some (.int .i64 V) := cell_of hb 1
  refine calls_k fun R hR => ?_
  have HF := Lib.hid hF
  have hres : hWho k v x ⟨(K, V, F), hq⟩ y = ((K == k) && (V == v) && (y == x)) := by
    simp only [hWho]
    congr 1
  rw [hres] at hR
  clear h1 h2 h3 hF hb hres
  show Calls Tryz.prog 88 #[.agg #[.int .i64 K, .int .i64 V, .int .i64 F], .int .i64 y, .pointer (some ⟨p1, 0, none⟩), .pointer (some ⟨p2, 0, none⟩), .pointer (some ⟨p3, 0, none⟩)] w R
  go_enter Tryz.func88, Tryz.ntmps88
  go_upto_region 1 with (fail)
  rw [← hW]
  clear hW
  by_cases e1 : (K == k) = true
  · rw [e1] at hR
    by_cases e2 : (V == v) = true
    · rw [e2] at hR
      go_wp2
      exact hR.out _ _ ⟨by first | rfl | simp, by first | exact HF.out | exact HF.out.drewN _⟩
    · have e2 : (V == v) = false := by simpa using e2
      rw [e2] at hR
      go_wp2
      exact hR.out _ _ ⟨by first | rfl | simp, by first | exact HF.out | exact HF.out.drewN _⟩
  · have e1 : (K == k) = false := by simpa using e1
    rw [e1] at hR
    go_wp2
    exact hR.out _ _ ⟨by first | rfl | simp, by first | exact HF.out | exact HF.out.drewN _⟩
set_option maxHeartbeats 1000000 in
set_option maxRecDepth 100000 in
theorem cAll {w : World} {p1 p2 : Nat} {k v : Int} (h1 : w.cell? ⟨p1, 0, none⟩ = some (.int .i64 k)) (h2 : w.cell? ⟨p2, 0, none⟩ = some (.int .i64 v)) (q : Bal) (y : Int) :
    Calls Tryz.prog 87 #[balE q, .int .i64 y, .pointer (some ⟨p1, 0, none⟩), .pointer (some ⟨p2, 0, none⟩)] w fun e w' => e = .returned (.bool (hAll k v q y)) ∧ Fr [] w w' := by
  obtain ⟨⟨K, V, F⟩, hq⟩ := q
  have b1 : p1 < w.heap.size := lt_cell h1
  have b2 : p2 < w.heap.size := lt_cell h2
  obtain ⟨W, hW⟩ : ∃ W, W = w.alloc (.cells #[.int .i64 K, .int .i64 V, .int .i64 F] 113 (0, 0)) := ⟨_, rfl⟩
  have hF : Fr [] w W := by rw [hW]; exact (Fr.refl _ _).alloc _
  have g1 := (hF.cell b1 (by simp)).trans h1
  have g2 := (hF.cell b2 (by simp)).trans h2
  have hb : W.heap[w.heap.size]? = some (.cells #[.int .i64 K, .int .i64 V, .int .i64 F] 113 (0, 0)) := by rw [hW]; exact heap_alloc_new w _
  have k0 : W.cell? ⟨w.heap.size, 0, none⟩ = some (.int .i64 K) := cell_of hb 0
  have k1 : W.cell? ⟨w.heap.size, 1, none⟩ = some (.int .i64 V) := cell_of hb 1
  refine calls_k fun R hR => ?_
  have HF := Lib.hid hF
  have hres : hAll k v ⟨(K, V, F), hq⟩ y = ((K == k) && (V == v)) := by
    simp only [hAll]
    congr 1
  rw [hres] at hR
  clear h1 h2 hF hb hres
  show Calls Tryz.prog 87 #[.agg #[.int .i64 K, .int .i64 V, .int .i64 F], .int .i64 y, .pointer (some ⟨p1, 0, none⟩), .pointer (some ⟨p2, 0, none⟩)] w R
  go_enter Tryz.func87, Tryz.ntmps87
  go_upto_region 1 with (fail)
  rw [← hW]
  clear hW
  by_cases e1 : (K == k) = true
  · rw [e1] at hR
    by_cases e2 : (V == v) = true
    · rw [e2] at hR
      go_wp2
      exact hR.out _ _ ⟨by first | rfl | simp, by first | exact HF.out | exact HF.out.drewN _⟩
    · have e2 : (V == v) = false := by simpa using e2
      rw [e2] at hR
      go_wp2
      exact hR.out _ _ ⟨by first | rfl | simp, by first | exact HF.out | exact HF.out.drewN _⟩
  · have e1 : (K == k) = false := by simpa using e1
    rw [e1] at hR
    go_wp2
    exact hR.out _ _ ⟨by first | rfl | simp, by first | exact HF.out | exact HF.out.drewN _⟩
set_option maxHeartbeats 1000000 in
set_option maxRecDepth 100000 in
theorem cAhead {w : World} {p1 : Nat} {v : Int} (h1 : w.cell? ⟨p1, 0, none⟩ = some (.int .i64 v)) (q : Bal) (y : Int) :
    Calls Tryz.prog 71 #[balE q, .int .i64 y, .pointer (some ⟨p1, 0, none⟩)] w fun e w' => e = .returned (.bool (hAhead v q y)) ∧ Fr [] w w' := by
  obtain ⟨⟨K, V, F⟩, hq⟩ := q
  have b1 : p1 < w.heap.size := lt_cell h1
  obtain ⟨W, hW⟩ : ∃ W, W = w.alloc (.cells #[.int .i64 K, .int .i64 V, .int .i64 F] 113 (0, 0)) := ⟨_, rfl⟩
  have hF : Fr [] w W := by rw [hW]; exact (Fr.refl _ _).alloc _
  have g1 := (hF.cell b1 (by simp)).trans h1
  have hb : W.heap[w.heap.size]? = some (.cells #[.int .i64 K, .int .i64 V, .int .i64 F] 113 (0, 0)) := by rw [hW]; exact heap_alloc_new w _
  have k1 : W.cell? ⟨w.heap.size, 1, none⟩ = some (.int .i64 V) := cell_of hb 1
  refine calls_k fun R hR => ?_
  have HF := Lib.hid hF
  have hres : hAhead v ⟨(K, V, F), hq⟩ y = decide (v ≤ V) := rfl
  rw [hres] at hR
  clear h1 hF hb hres
  show Calls Tryz.prog 71 #[.agg #[.int .i64 K, .int .i64 V, .int .i64 F], .int .i64 y, .pointer (some ⟨p1, 0, none⟩)] w R
  go_enter Tryz.func71, Tryz.ntmps71
  go_upto_region 1 with (fail)
  rw [← hW]
  clear hW
  go_wp2
  exact hR.out _ _ ⟨by first | rfl | simp, by first | exact HF.out | exact HF.out.drewN _⟩
end Go.Np.Tryz
