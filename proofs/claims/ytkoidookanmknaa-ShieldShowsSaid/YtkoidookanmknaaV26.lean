/- meresmanref30: Some. -/
import Derived.Test.YtkoidookanmknaaV25
namespace Go.Proofs.Ytkoidookanmknaa
set_option linter.unusedSimpArgs false
set_option linter.unusedVariables false
open Go.RowKit

/-- A set of cells. -/
def SetOK (n : Int) (P : List Int) : Prop := P.Pairwise (· < ·) ∧ ∀ x, x ∈ P → 0 ≤ x ∧ x < n
theorem getD_get {P : List Int} {k : Nat} (hk : k < P.length) : P.getD k 0 = P[k] := by simp [List.getD_eq_getElem?_getD, hk]
theorem SetOK.cells {n : Int} {P : List Int} (h : SetOK n P) (k : Nat) (hk : k < P.length) : badC n P k = false := by
  have h1 := h.2 _ (List.getElem_mem hk)
  unfold badC
  rw [getD_get hk]
  simp only [Bool.or_eq_false_iff, decide_eq_false_iff_not, Bool.and_eq_false_iff]
  refine ⟨⟨by omega, by omega⟩, ?_⟩
  by_cases h0 : 0 < k
  · refine .inr ?_
    rw [getD_get (by omega)]
    have := List.pairwise_iff_getElem.1 h.1 (k - 1) k (by omega) hk (by omega)
    omega
  · exact .inl h0
theorem SetOK.nil (n : Int) : SetOK n [] := ⟨List.Pairwise.nil, fun x hx => absurd hx (by simp)⟩
theorem SetOK.one {n x : Int} (h0 : 0 ≤ x) (h1 : x < n) : SetOK n [x] := ⟨List.pairwise_singleton _ _, fun y hy => by simp at hy; omega⟩
theorem SetOK.up {n m : Int} {P : List Int} (h : SetOK n P) (hm : n ≤ m) : SetOK m P := ⟨h.1, fun x hx => by have := h.2 x hx; omega⟩
theorem SetOK.add {n : Int} {P : List Int} (h : SetOK n P) (h0 : 0 ≤ n) : SetOK (n + 1) (P ++ [n]) := by
  refine ⟨List.pairwise_append.2 ⟨h.1, List.pairwise_singleton _ _, fun a ha b hb => ?_⟩, fun x hx => ?_⟩
  · simp at hb; subst hb; exact (h.2 a ha).2
  · rcases List.mem_append.1 hx with hx | hx
    · have := h.2 x hx; omega
    · simp at hx; omega

theorem owns_grown {w w' : World} {base : Nat} {e : TypeId} {s : Nat} {v : Value} {n : Nat} {xs : List Value} {row : Option Nat} (h : w.ownsRow base e s v n xs) (k : w.grownBy w' row) (hne : ∀ g, v.ownBlock = some g → row ≠ some g) : w'.ownsRow base e s v n xs := by
  obtain ⟨h0, ⟨hv, hn⟩ | ⟨g', cap, cur, hv, hb, hh, r⟩⟩ := h
  · exact ⟨h0, .inl ⟨hv, hn⟩⟩
  · exact ⟨h0, .inr ⟨g', cap, cur, hv, hb, by rw [k.block g' (lt_of_block hh) (fun e => hne g' (by rw [hv]; rfl) e.symm)]; exact hh, r⟩⟩
theorem ints_grown {w w1 : World} {row : Option Nat} {b off n : Nat} {F : List Int} (h : Ints w (some ⟨b, off, none⟩) n F) (hgr : w.grownBy w1 row) (hb : b < w.heap.size) (hne : row ≠ some b) : Ints w1 (some ⟨b, off, none⟩) n F := by
  obtain ⟨h1, h2, h3, h4⟩ := h
  refine ⟨h1, h2, h3, ?_⟩
  rcases h4 with h4 | ⟨b', off', ha, hb', hc⟩
  · exact .inl h4
  · simp at ha
    obtain ⟨rfl, rfl⟩ := ha
    refine .inr ⟨b, off, rfl, Nat.lt_of_lt_of_le hb hgr.size, fun i hi => ?_⟩
    have := hc i hi
    unfold World.cell? at this ⊢
    simp only at this ⊢
    rw [hgr.block b hb (fun e => hne e.symm)]
    exact this

/-- A sheet that grows. -/
structure GSh (W : World) (base : Nat) (vS vV : Value) (gs : List Sl) (Ls : List (List Int)) (zs : List Int) : Prop where
  n1 : gs.length = Ls.length
  S : W.ownsRow base 22 1 vS Ls.length (gs.map Sl.v)
  V : VRow W base vV zs
  ne : ∀ g, vS.ownBlock = some g → vV.ownBlock ≠ some g
  sets : ∀ k, k < Ls.length → ∃ b, (gs.getD k sl0).a = some ⟨b, 0, none⟩ ∧ base ≤ b ∧ b < W.heap.size ∧ Ints W (some ⟨b, 0, none⟩) (gs.getD k sl0).n (Ls.getD k []) ∧ vS.ownBlock ≠ some b ∧ vV.ownBlock ≠ some b
theorem GSh.nil (W : World) (base : Nat) : GSh W base (.slice none 0 0) (.slice none 0 0) [] [] [] :=
  ⟨rfl, ⟨rfl, .inl ⟨rfl, rfl⟩⟩, VRow.nil _ _, fun g hg => by simp [Value.ownBlock] at hg, fun k hk => absurd hk (by simp)⟩
theorem GSh.ext {W W' : World} {base : Nat} {vS vV : Value} {gs : List Sl} {Ls : List (List Int)} {zs : List Int} (h : GSh W base vS vV gs Ls zs) (k : Ext W W') : GSh W' base vS vV gs Ls zs :=
  ⟨h.n1, owns_ext k h.S, h.V.ext k, h.ne, fun i hi => by
    obtain ⟨b, h1, h2, h3, h4, h5⟩ := h.sets i hi
    exact ⟨b, h1, h2, Nat.lt_of_lt_of_le h3 k.size, h4.keep k.ik, h5⟩⟩
/-- A write into a block below the base. -/
theorem GSh.low {W : World} {base b o : Nat} {u vS vV : Value} {gs : List Sl} {Ls : List (List Int)} {zs : List Int} (h : GSh W base vS vV gs Ls zs) (hb : b < base) : GSh (W.setCell ⟨b, o, none⟩ u) base vS vV gs Ls zs :=
  have k := grown_setCell W b o u
  ⟨h.n1, owns_grown h.S k (fun g hg e => by have := (owns_lt h.S hg).1; injection e with e; omega), owns_grown h.V k (fun g hg e => by have := (owns_lt h.V hg).1; injection e with e; omega), h.ne, fun i hi => by
    obtain ⟨c, h1, h2, h3, h4, h5⟩ := h.sets i hi
    exact ⟨c, h1, h2, Nat.lt_of_lt_of_le h3 k.size, ints_grown h4 k h3 (fun e => by injection e with e; omega), h5⟩⟩
theorem GSh.addS {W W1 : World} {base g cap b n c : Nat} {vS vV : Value} {gs : List Sl} {Ls : List (List Int)} {zs : List Int} {L : List Int} (h : GSh W base vS vV gs Ls zs) (hI : Ints W (some ⟨b, 0, none⟩) n L) (hb : base ≤ b) (hlt : b < W.heap.size) (h1 : vS.ownBlock ≠ some b) (h2 : vV.ownBlock ≠ some b)
    (hown : W1.ownsRow base 22 1 (.slice (some ⟨g, 0, none⟩) (Ls.length + 1) cap) (Ls.length + 1) (gs.map Sl.v ++ [.slice (some ⟨b, 0, none⟩) n c])) (hgr : W.grownBy W1 vS.ownBlock) (hat : vS.ownBlock = some g ∨ g = W.heap.size) :
    GSh W1 base (.slice (some ⟨g, 0, none⟩) (Ls.length + 1) cap) vV (gs ++ [⟨some ⟨b, 0, none⟩, n, c⟩]) (Ls ++ [L]) zs := by
  have hgb : ∀ x, x < W.heap.size → vS.ownBlock ≠ some x → g ≠ x := fun x hx hn e => by
    rcases hat with hat | hat
    · rw [hat, e] at hn; exact hn rfl
    · omega
  refine ⟨by simp [h.n1], by simpa using hown, owns_grown h.V hgr (fun x hx e => h.ne x e hx), fun x hx e => ?_, fun k hk => ?_⟩
  · simp [Value.ownBlock] at hx
    have := (owns_lt h.V e).2
    exact hgb x this (fun e' => h.ne x e' e) hx
  · by_cases hk' : k < Ls.length
    · obtain ⟨y, y1, y2, y3, y4, y5, y6⟩ := h.sets k hk'
      have e1 : (gs ++ [(⟨some ⟨b, 0, none⟩, n, c⟩ : Sl)]).getD k sl0 = gs.getD k sl0 := by simp [List.getD_eq_getElem?_getD, List.getElem?_append, h.n1, hk']
      have e2 : (Ls ++ [L]).getD k [] = Ls.getD k [] := by simp [List.getD_eq_getElem?_getD, List.getElem?_append, hk']
      rw [e1, e2]
      exact ⟨y, y1, y2, Nat.lt_of_lt_of_le y3 hgr.size, ints_grown y4 hgr y3 y5, (fun e => by simp [Value.ownBlock] at e; exact hgb y y3 y5 e), y6⟩
    · have : k = Ls.length := by simp at hk; omega
      subst this
      have e1 : (gs ++ [(⟨some ⟨b, 0, none⟩, n, c⟩ : Sl)]).getD Ls.length sl0 = ⟨some ⟨b, 0, none⟩, n, c⟩ := by rw [← h.n1]; simp [List.getD_eq_getElem?_getD]
      have e2 : (Ls ++ [L]).getD Ls.length [] = L := by simp [List.getD_eq_getElem?_getD]
      rw [e1, e2]
      exact ⟨b, rfl, hb, Nat.lt_of_lt_of_le hlt hgr.size, ints_grown hI hgr hlt h1, (fun e => by simp [Value.ownBlock] at e; exact hgb b hlt h1 e), h2⟩
theorem GSh.addV {W W1 : World} {base g cap : Nat} {vS vV : Value} {gs : List Sl} {Ls : List (List Int)} {zs : List Int} {x : Int} (h : GSh W base vS vV gs Ls zs)
    (hown : W1.ownsRow base 3 1 (.slice (some ⟨g, 0, none⟩) (zs.length + 1) cap) (zs.length + 1) (ivals zs ++ ivals [x])) (hgr : W.grownBy W1 vV.ownBlock) (hat : vV.ownBlock = some g ∨ g = W.heap.size) :
    GSh W1 base vS (.slice (some ⟨g, 0, none⟩) (zs.length + 1) cap) gs Ls (zs ++ [x]) := by
  have hgb : ∀ y, y < W.heap.size → vV.ownBlock ≠ some y → g ≠ y := fun y hy hn e => by
    rcases hat with hat | hat
    · rw [hat, e] at hn; exact hn rfl
    · omega
  refine ⟨h.n1, owns_grown h.S hgr (fun y hy e => h.ne y hy e), VRow.app rfl hown, fun y hy e => ?_, fun k hk => ?_⟩
  · simp [Value.ownBlock] at e
    exact hgb y (owns_lt h.S hy).2 (h.ne y hy) e
  · obtain ⟨y, y1, y2, y3, y4, y5, y6⟩ := h.sets k hk
    exact ⟨y, y1, y2, Nat.lt_of_lt_of_le y3 hgr.size, ints_grown y4 hgr y3 y6, y5, (fun e => by simp [Value.ownBlock] at e; exact hgb y y3 y6 e)⟩
/-- What it is, as a sheet in memory. -/
theorem GSh.shin {W : World} {base : Nat} {vS vV : Value} {gs : List Sl} {Ls : List (List Int)} {zs : List Int} {n : Int} (h : GSh W base vS vV gs Ls zs) (hl : Ls.length ≤ 1000) (hz : zs.length ≤ 1000) (h64 : ∀ i, i < zs.length → Int64 (zs.getD i 0)) (hlen : ∀ k, (Ls.getD k []).length ≤ 1000) :
    ∃ ss vs : Sl, vS = ss.v ∧ vV = vs.v ∧ ss.n = Ls.length ∧ vs.n = zs.length ∧ ShIn W n ss vs gs Ls zs := by
  obtain ⟨a, c, e, hI⟩ := h.V.ints (by omega) h64
  obtain ⟨h0, hS⟩ := h.S
  have hset : ∀ i, i < Ls.length → Ints W (gs.getD i sl0).a (gs.getD i sl0).n (Ls.getD i []) := fun i hi => by
    obtain ⟨b, h1, h2, h3, h4, _⟩ := h.sets i hi
    rw [h1]; exact h4
  rcases hS with ⟨hv, hn⟩ | ⟨g, cap, cur, hv, hb, hh, hle, hc, hsz, htk⟩
  · exact ⟨⟨none, 0, 0⟩, ⟨a, zs.length, c⟩, by rw [hv], e, hn.symm, rfl, ⟨by rw [h.n1]; exact hn, hn, by simp, .inl rfl, fun i hi => absurd hi (by simp)⟩, hI, hlen⟩
  · refine ⟨⟨some ⟨g, 0, none⟩, Ls.length, cap⟩, ⟨a, zs.length, c⟩, by rw [hv], e, rfl, rfl, ⟨h.n1, rfl, by simp; omega, .inr ⟨g, 0, rfl, lt_of_block hh, fun i hi => ?_⟩, hset⟩, hI, hlen⟩
    have p1 : (gs.map Sl.v)[i]? = some (gs.getD i sl0).v := by
      have : i < gs.length := by rw [h.n1]; exact hi
      simp [this]
    rw [← htk, List.getElem?_take_of_lt (by simp at hi ⊢; omega)] at p1
    simp [World.cell?, hh]; simpa using p1
end Go.Proofs.Ytkoidookanmknaa
