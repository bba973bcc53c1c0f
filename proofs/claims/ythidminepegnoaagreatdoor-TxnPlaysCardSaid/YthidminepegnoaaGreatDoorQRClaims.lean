/- The document's Claims. -/
import Derived.Test.YthidminepegnoaaGreatDoorQClaims
namespace Go.Proofs.YthidminepegnoaaGreatDoor
open Go.RowKit Go.Shelf Go.Maps Go.Sort
attribute [local go_sem] Oper.semAt_some
attribute [local irreducible] wpQuiet
set_option linter.unusedVariables false
set_option linter.unusedSimpArgs false

/-- The schema of a predicate. -/
def schOf (l : List Sch) (p : ByteArray) : Option Sch := if findS l p < 0 then none else l[(findS l p).toNat]?
theorem findS_lt (l : List Sch) (p : ByteArray) : findS l p < l.length := by
  unfold findS; split <;> omega
theorem findS_ge (l : List Sch) (p : ByteArray) : -1 ≤ findS l p := by
  unfold findS; split <;> omega
/-- Why a write may not be; 0: it may. -/
noncomputable def wrErr (l : List Sch) (x : Wr) : Int :=
  if trMay x ≠ 0 then trMay x else match schOf l x.pred with
    | none => 5
    | some s => if x.val.k ≠ s.ty then 42 else 0
/-- What a write claims. -/
def claimOf (l : List Sch) (x : Wr) : ByteArray :=
  match schOf l x.pred with
  | none => default
  | some s => if s.list then (keyB x.pred ++ strOfNums (num x.uid.toNat)) ++ valB x.val else keyB x.pred ++ strOfNums (num x.uid.toNat)
noncomputable def claimsErr (l : List Sch) (ws : List Wr) : Int := if 0 ≤ wrongS l then 43 else if 256 < ws.length then 4 else firstNZ (ws.map (wrErr l))
noncomputable def claimsKeys (l : List Sch) (ws : List Wr) : List ByteArray := if claimsErr l ws = 0 then normS (ws.map (claimOf l)) else []

theorem firstNZ_at : ∀ {l : List Int} {k : Nat} (hk : k < l.length), (∀ j (h : j < l.length), j < k → l[j] = 0) → l[k] ≠ 0 → firstNZ l = l[k]
  | x :: l, 0, hk, hn, h => by simp only [List.getElem_cons_zero] at h ⊢; simp [firstNZ, h]
  | x :: l, k + 1, hk, hn, h => by
    have h0 := hn 0 (by simp) (by omega)
    simp only [List.getElem_cons_zero] at h0
    simp only [List.getElem_cons_succ] at h ⊢
    rw [firstNZ, if_pos h0]
    exact firstNZ_at (by simpa using hk) (fun j hj hjk => by have := hn (j + 1) (by simpa using hj) (by omega); rwa [List.getElem_cons_succ] at this) h
theorem firstNZ_none : ∀ {l : List Int}, (∀ x ∈ l, x = 0) → firstNZ l = 0
  | [], _ => rfl
  | x :: l, h => by rw [firstNZ, if_pos (h x (List.mem_cons_self ..))]; exact firstNZ_none fun y hy => h y (List.mem_cons_of_mem _ hy)

theorem trMay_zero {x : Wr} (h : trMay x = 0) : predOk x.pred = true ∧ valMay x.val = true := by
  unfold trMay at h
  cases hp : predOk x.pred <;> cases hv : valMay x.val <;> simp [hp, hv] at h ⊢ <;> split at h <;> simp_all
theorem predOk_size {s : ByteArray} (h : predOk s = true) : s.size ≤ 64 := by
  by_cases hp : predOkP s
  · exact hp.2.1
  · rw [predOk_false hp] at h; cases h

theorem _root_.Go.World.ownsRow.fr0 {w w' : World} {base : Nat} {e : TypeId} {size : Nat} {v : Value} {n : Nat} {xs : List Value} (h : w.ownsRow base e size v n xs) (hf : Fr N0 w w') : w'.ownsRow base e size v n xs :=
  ownsRow_same h fun g hg => hf.at id (h.lt g hg).2

theorem kept_row {S : World → Prop} {W : World} {base : Nat} {e : TypeId} {size : Nat} {v : Value} {n : Nat} {xs : List Value} (c : W.ownsRow base e size v n xs) (k : Kept S W) : Kept (fun W' => W'.ownsRow base e size v n xs ∧ S W') W :=
  kept_add (T := fun W => W.ownsRow base e size v n xs) k c fun _ _ hf h => h.fr0 hf
theorem kept_max {S : World → Prop} {W : World} (c : MaxAt W) (k : Kept S W) : Kept (fun W' => MaxAt W' ∧ S W') W :=
  kept_add (T := MaxAt) k c fun _ _ hf h => h.fr0 hf

theorem strOfNums_size (l : List Int) : (strOfNums l).size = l.length := by
  show (strOfNums l).data.size = _
  simp [strOfNums]
theorem valB_size {v : Val} (hok : v.ok) (hm : valMay v = true) : (valB v).size ≤ 10000 := by
  have hnb : nb v.u.toNat ≤ 8 := nb_le 8 _ (by have := hok.2.2.2; have := hok.2.2.1; omega)
  have hk := keyB_size v.s
  unfold valB
  rw [ByteArray.size_append, strOfNums_size]
  rcases valMay_kind hm with h | h | ⟨h, hs⟩ | h
  · rw [h]; simp [strOfNums_size]
  · rw [h]; simp [strOfNums_size, be_length]
  · rw [h]; simp; omega
  · rw [h]; simp [strOfNums_size, num, be_length]; omega

set_option maxRecDepth 100000 in
set_option maxHeartbeats 800000 in
theorem r4Claims_any (w : World) (bl : Nat) (vl : Value) (l : List Sch) (hsch : Schs w bl vl l) (b : Nat) (v : Value) (xs : List Wr) (h : Wrs w b v xs) (hl : l.length ≤ 1000000) (hx : xs.length ≤ 1000000) (hok : ∀ x ∈ xs, x.ok) :
    Calls Tryz.prog 76 #[vl, v] w fun e w' => ∃ v' at_ bb, e = .returned (.tuple #[v', .int .i64 at_, .int .i64 (claimsErr l xs)]) ∧ Strs w' bb v' (claimsKeys l xs) ∧ w.heap.size ≤ bb ∧ Fr N0 w w' := by
  obtain ⟨i0, hi, hz0, hz1, hz2⟩ := info_parts infoStr
  have hwr := wrong_any w bl vl l hsch hl
  have hce : claimsErr l xs = if 0 ≤ wrongS l then 43 else if 256 < xs.length then 4 else firstNZ (xs.map (wrErr l)) := rfl
  have hck : claimsKeys l xs = if claimsErr l xs = 0 then normS (xs.map (claimOf l)) else [] := rfl
  obtain ⟨ce, hce0⟩ : ∃ ce, claimsErr l xs = ce := ⟨_, rfl⟩
  obtain ⟨ck, hck0⟩ : ∃ ck, claimsKeys l xs = ck := ⟨_, rfl⟩
  simp only [hce0, hck0] at hce hck ⊢
  obtain ⟨wr, hwr0⟩ : ∃ wr, wrongS l = wr := ⟨_, rfl⟩
  simp only [hwr0] at hwr hce
  have HCK := Lib.hid hck
  clear hce0 hck0 hwr0 hck
  by_cases h0 : 0 ≤ wr
  · obtain rfl : ce = 43 := by rw [hce, if_pos h0]
    have hnil : ck = [] := by rw [HCK.out]; rfl
    have HN := Lib.hid hnil
    clear hce hnil HCK
    obtain ⟨a, off, cap, rfl, _⟩ := h
    go_enter Tryz.func76, Tryz.ntmps76
    go_wp2_with (go_at_call 102; go_loud (refine hwr.mono ?_); rintro e w1 ⟨rfl, hf1⟩)
    go_ret3
    exact ⟨_, _, w.heap.size, rfl, by rw [HN.out]; exact Strs.nil _ _, Nat.le_refl _, hf1⟩
  rw [if_neg h0] at hce
  by_cases h256 : 256 < xs.length
  · obtain rfl : ce = 4 := by rw [hce, if_pos h256]
    have hnil : ck = [] := by rw [HCK.out]; rfl
    have HN := Lib.hid hnil
    have h256' : (256 : Int) < (xs.length : Int) := by omega
    clear hce hnil HCK
    obtain ⟨a, off, cap, rfl, _⟩ := h
    go_enter Tryz.func76, Tryz.ntmps76
    go_wp2_with (go_at_call 102; go_loud (refine hwr.mono ?_); rintro e w1 ⟨rfl, hf1⟩)
    go_ret3
    exact ⟨_, _, w.heap.size, rfl, by rw [HN.out]; exact Strs.nil _ _, Nat.le_refl _, hf1⟩
  rw [if_neg h256] at hce
  have hfindl := findS_lt l; have hfindg := findS_ge l
  have hfind := fun (W : World) (hf : Fr N0 w W) (p : ByteArray) => find_any W bl vl l (hsch.fr0 hf) p hl
  obtain ⟨al, offl, capl, rfl, g1, g2, g3, g4, g5⟩ := hsch
  obtain ⟨a, off, cap, rfl, h1, h2, h3, h4, h5⟩ := h
  have HC := Lib.hid h5; have HCL := Lib.hid g5; have HCE := Lib.hid hce; have HOK := Lib.hid hok; have HFIND := Lib.hid hfind
  have h256' : ¬ (256 : Int) < (xs.length : Int) := by omega
  clear h4 h5 g4 g5 hce hok hfind
  go_enter Tryz.func76, Tryz.ntmps76
  go_wp2_with (go_at_call 102; go_loud (refine hwr.mono ?_); rintro e w1 ⟨rfl, hf1⟩)
  have HF1 := Lib.hid hf1
  clear hf1 hwr h0 h256
  go_loopw [8, 9] (fun o iv wr => ∃ k : Nat, k ≤ xs.length ∧ iv = .int .i64 k ∧ Hid (∀ j (h : j < xs.length), j < k → wrErr l xs[j] = 0) ∧ wr.ownsRow w.heap.size 9 1 o k (((xs.take k).map (claimOf l)).map Value.string) ∧ Fr N0 w wr) (fun _ iv _ => xs.length - (intOf iv).toNat)
  case atStart => exact ⟨0, Nat.zero_le _, by go_num, fun j hj h => by omega, World.ownsRow_nil _ _ _ _, HF1.out⟩
  case round =>
    obtain ⟨k, hk, rfl, hn, hrow, hfr⟩ := hrel
    have hwsz := hfr.size
    by_cases hlt : k < xs.length
    · obtain rfl := h3 (by omega)
      have hlt' : (k : Int) < (xs.length : Int) := by omega
      have hc8 := HC.out k hlt
      have hxok := HOK.out xs[k] (List.getElem_mem hlt)
      have hts : ((xs.take (k + 1)).map (claimOf l)).map Value.string = ((xs.take k).map (claimOf l)).map Value.string ++ [.string (claimOf l xs[k])] := by
        rw [List.take_succ_eq_append_getElem hlt]; simp only [List.map_append, List.map_cons, List.map_nil]
      have hbad : wrErr l xs[k] ≠ 0 → ce = wrErr l xs[k] := fun hne => by
        rw [HCE.out, firstNZ_at (k := k) (by simpa using hlt) (fun j hj hjk => by simpa using hn.out j (by simpa using hj) hjk) (by simpa using hne)]
        simp
      have hgood : wrErr l xs[k] = 0 → ∀ j (h : j < xs.length), j < k + 1 → wrErr l xs[j] = 0 := fun he j hj hjk => by
        rcases Nat.lt_or_ge j k with h' | h'
        · exact hn.out j hj h'
        · have : j = k := by omega
          subst this; exact he
      obtain ⟨x, hx0⟩ : ∃ x, xs[k] = x := ⟨_, rfl⟩
      simp only [hx0] at hc8 hxok hts hbad hgood
      clear hx0
      obtain ⟨c0, c1, c2, c3, c4, c5, c6, c7⟩ := wr_cells (W := w) hc8
      replace c0 := hfr.cell id c0; replace c1 := hfr.cell id c1; replace c2 := hfr.cell id c2; replace c3 := hfr.cell id c3
      replace c4 := hfr.cell id c4; replace c5 := hfr.cell id c5; replace c6 := hfr.cell id c6; replace c7 := hfr.cell id c7
      have hmay := fun W => r4May_any x W
      have hsz := fun h : trMay x = 0 => predOk_size (trMay_zero h).1
      have hkey := fun (h : x.pred.size ≤ 1000000) W => r2Key_any x.pred h W
      have hun : ((x.uid.toNat : Nat) : Int) = x.uid := by have := hxok.1.1; omega
      have hnum := fun W => rnum_any x.uid.toNat (by have := hxok.1; omega) W
      rw [hun] at hnum
      have hvb := fun (h : valMay x.val = true) W => r3Bytes_any x.val hxok.2 h W
      have hvs := fun (h : valMay x.val = true) => valB_size hxok.2 h
      have hks := keyB_size x.pred
      have hns : (strOfNums (num x.uid.toNat)).size ≤ 9 := by
        rw [strOfNums_size, num, List.length_cons, be_length]; have := nb_le 8 x.uid.toNat (by have := hxok.1; omega); omega
      have hfd := fun W hf => HFIND.out W hf x.pred
      have hfl := hfindl x.pred; have hfg := hfindg x.pred
      have hwe : wrErr l x = if trMay x ≠ 0 then trMay x else match schOf l x.pred with
        | none => 5
        | some s => if x.val.k ≠ s.ty then 42 else 0 := rfl
      have hko : claimOf l x = match schOf l x.pred with
        | none => default
        | some s => if s.list then (keyB x.pred ++ strOfNums (num x.uid.toNat)) ++ valB x.val else keyB x.pred ++ strOfNums (num x.uid.toNat) := rfl
      have hso : schOf l x.pred = if findS l x.pred < 0 then none else l[(findS l x.pred).toNat]? := rfl
      have hvm := fun h : trMay x = 0 => (trMay_zero h).2
      obtain ⟨we, hwe0⟩ : ∃ e, wrErr l x = e := ⟨_, rfl⟩
      obtain ⟨ko, hko0⟩ : ∃ e, claimOf l x = e := ⟨_, rfl⟩
      simp only [hwe0] at hwe hbad hgood
      simp only [hko0] at hko hts
      obtain ⟨fk, hfk⟩ : ∃ e, findS l x.pred = e := ⟨_, rfl⟩
      simp only [hfk] at hfd hfl hfg hso
      obtain ⟨e0, he0⟩ : ∃ e, trMay x = e := ⟨_, rfl⟩
      simp only [he0] at hmay hsz hwe hvm
      clear hwe0 hko0 hfk he0 hxok hun
      obtain ⟨xd, xu, xp, vk, vb, vn, vs, vu⟩ := x
      unfold Wr.tenc at hmay
      unfold Val.enc at hvb
      simp only at hmay hkey hnum hvb hsz hwe hko c0 c1 c2 c3 c4 c5 c6 c7 hc8 hks hns hvs hvm hfd hso
      have HMAY := Lib.hid hmay; have HKEY := Lib.hid hkey; have HNUM := Lib.hid hnum; have HVB := Lib.hid hvb; have HVS := Lib.hid hvs; have HTS := Lib.hid hts; have HBAD := Lib.hid hbad; have HGOOD := Lib.hid hgood; have row := hrow; have HN := Lib.hid hn.out; have HFD := Lib.hid hfd; have HWE := Lib.hid hwe; have HKO := Lib.hid hko; have HSO := Lib.hid hso; have HSZ := Lib.hid hsz; have HVM := Lib.hid hvm
      clear hmay hkey hnum hvb hvs hts hbad hgood hrow hn hfd hc8 hwe hko hso hsz hvm
      by_cases hz : e0 = 0
      case neg =>
        have hce : ce = e0 := by
          have := HWE.out
          rw [if_pos hz] at this
          rw [← this]; exact HBAD.out (by rw [this]; exact hz)
        have hnil : ck = [] := by rw [HCK.out, if_neg (by rw [hce]; exact hz)]
        have HN := Lib.hid hnil; have HCE2 := Lib.hid hce
        have hz' : (e0 != 0) = true := by simpa using hz
        clear hce hnil
        go_wp2_with (go_at_call 48; go_loud (refine (HMAY.out _).mono ?_); rintro e w2 ⟨rfl, hf2⟩)
        go_ret3
        exact ⟨_, _, w.heap.size, by rw [HCE2.out]; rfl, by rw [HN.out]; exact Strs.nil _ _, Nat.le_refl _, hfr.then0 hf2⟩
      case pos =>
        subst hz
        have hwe := HWE.out
        rw [if_neg (fun h => h rfl)] at hwe
        have hps := HSZ.out rfl; have hvm := HVM.out rfl
        by_cases hf0 : fk < 0
        case pos =>
          have hce : ce = 5 := by
            rw [HSO.out, if_pos hf0] at hwe
            simp only at hwe
            rw [← hwe]; exact HBAD.out (by rw [hwe]; decide)
          have hnil : ck = [] := by rw [HCK.out, if_neg (by rw [hce]; decide)]
          have HN := Lib.hid hnil; have HCE2 := Lib.hid hce
          clear hce hnil hwe
          go_wp2_with (first
            | (go_at_call 48; go_loud (refine (HMAY.out _).mono ?_); rintro e w2 ⟨rfl, hf2⟩; replace c2 := hf2.cell id c2; replace hfr := hfr.then0 hf2)
            | (go_at_call 103; go_loud (refine (HFD.out _ hfr).mono ?_); rintro e w3 ⟨rfl, hf3⟩))
          go_ret3
          exact ⟨_, _, w.heap.size, by rw [HCE2.out]; rfl, by rw [HN.out]; exact Strs.nil _ _, Nat.le_refl _, hfr.then0 hf3⟩
        case neg =>
          obtain ⟨j, rfl⟩ : ∃ j : Nat, fk = j := ⟨fk.toNat, by omega⟩
          have hjl : j < l.length := by omega
          obtain rfl := g3 (by omega)
          have hso := HSO.out
          rw [if_neg hf0, Int.toNat_natCast, List.getElem?_eq_getElem hjl] at hso
          have hsc := sch_cells (W := w) (HCL.out j hjl)
          have hko := HKO.out
          rw [hso] at hwe hko
          obtain ⟨s, hs0⟩ : ∃ s, l[j] = s := ⟨_, rfl⟩
          simp only [hs0] at hwe hsc hko
          obtain ⟨sp, st, sl, se, sm, so, sr, sc⟩ := s
          simp only at hwe hsc hko
          obtain ⟨s0, s1, s2, s3, s4, s5, s6, s7⟩ := hsc
          replace s1 := hfr.cell id s1; replace s2 := hfr.cell id s2
          have hjl' : (j : Int) < (l.length : Int) := by omega
          clear s0 s3 s4 s5 s6 s7 hs0 hso hf0 hfl hfg
          by_cases hty : vk = st
          case neg =>
            have hce : ce = 42 := by
              rw [if_pos hty] at hwe
              rw [← hwe]; exact HBAD.out (by rw [hwe]; decide)
            have hnil : ck = [] := by rw [HCK.out, if_neg (by rw [hce]; decide)]
            have HN := Lib.hid hnil; have HCE2 := Lib.hid hce
            have hty' : (vk != st) = true := by simpa using hty
            clear hce hnil hwe hko
            go_wp2_with (first
              | (go_at_call 48; go_loud (refine (HMAY.out _).mono ?_); rintro e w2 ⟨rfl, hf2⟩; replace c2 := hf2.cell id c2; replace c3 := hf2.cell id c3; replace s1 := hf2.cell id s1; replace hfr := hfr.then0 hf2)
              | (go_at_call 103; go_loud (refine (HFD.out _ hfr).mono ?_); rintro e w3 ⟨rfl, hf3⟩; replace c3 := hf3.cell id c3; replace s1 := hf3.cell id s1; replace hfr := hfr.then0 hf3))
            go_quiet (fail)
            go_wp2
            go_ret3
            exact ⟨_, _, w.heap.size, by rw [HCE2.out]; rfl, by rw [HN.out]; exact Strs.nil _ _, Nat.le_refl _, hfr.drewN _⟩
          case pos =>
            have hwe0 : we = 0 := by
              rw [hwe, if_neg (fun h => h hty)]
            have hgood := HGOOD.out hwe0
            have HGOOD2 := Lib.hid hgood
            have hty' : (vk != st) = false := by simpa using hty
            obtain ⟨K, hK⟩ : ∃ K, keyB xp = K := ⟨_, rfl⟩
            obtain ⟨N, hN⟩ : ∃ N, strOfNums (num xu.toNat) = N := ⟨_, rfl⟩
            have hkey := HKEY.out (by omega)
            have hnum := HNUM.out
            simp only [hK] at hkey hks hko
            simp only [hN] at hnum hns hko
            have hcat := cat_run K N (by omega)
            have hcsz : (K ++ N).size ≤ 1000 := by rw [ByteArray.size_append]; omega
            obtain ⟨KN, hKN⟩ : ∃ q, K ++ N = q := ⟨_, rfl⟩
            simp only [hKN] at hcat hko hcsz
            have HK2 := Lib.hid hkey; have HN2 := Lib.hid hnum
            clear hkey hnum hwe hgood hwe0 hK hN hKN hks hns hty
            cases sl with
            | false =>
              simp only [Bool.false_eq_true, if_false] at hko
              have HKO2 := Lib.hid hko
              clear hko
              go_wp2_with (first
                | (go_at_call 48; go_loud (refine (HMAY.out _).mono ?_); rintro e w2 ⟨rfl, hf2⟩; replace c1 := hf2.cell id c1; replace c2 := hf2.cell id c2; replace c3 := hf2.cell id c3; replace s1 := hf2.cell id s1; replace s2 := hf2.cell id s2; replace hfr := hfr.then0 hf2; replace row := row.fr0 hf2)
                | (go_at_call 103; go_loud (refine (HFD.out _ hfr).mono ?_); rintro e w3 ⟨rfl, hf3⟩; replace c1 := hf3.cell id c1; replace c2 := hf3.cell id c2; replace c3 := hf3.cell id c3; replace s1 := hf3.cell id s1; replace s2 := hf3.cell id s2; replace hfr := hfr.then0 hf3; replace row := row.fr0 hf3))
              obtain ⟨S, hK, hx, hSS⟩ := kept_open (kept_cons c1 (kept_cons c2 (kept_cons c3 (kept_cons s1 (kept_cons s2 (kept_row row (kept_start hfr)))))))
              have HSS := Lib.hid hSS
              simp only [forall_and] at hx
              obtain ⟨f_c1, f_c2, f_c3, f_s1, f_s2, f_row, f_F⟩ := hx
              clear hSS
              refine wp_region_kept hK (by kernel_rfl) (by kernel_rfl) ?_
              intro hne
              repeat (quiet_step (first | fail))
              refine wpQuiet_nil ?_
              rintro wq ⟨⟨_, hq⟩, rfl⟩
              replace hq := HSS.out _ hq
              clear f_c1 f_c2 f_c3 f_s1 f_s2 f_row f_F hK hne HSS c1 c2 c3 s1 s2 row hfr S
              obtain ⟨c1, c2, c3, s1, s2, row, hfr⟩ := hq
              go_wp2
              obtain ⟨S, hK, hx, hSS⟩ := kept_open (kept_cons c1 (kept_cons c2 (kept_cons s2 (kept_row row (kept_start hfr)))))
              have HSS := Lib.hid hSS
              simp only [forall_and] at hx
              obtain ⟨f_c1, f_c2, f_s2, f_row, f_F⟩ := hx
              clear hSS
              refine wp_region_kept hK (by kernel_rfl) (by kernel_rfl) ?_
              intro hne
              repeat (quiet_step (first | (go_at_call 104; refine calls_kept hK (HK2.out _)) | (go_at_call 105; refine calls_kept hK (HN2.out _))))
              refine wpQuiet_nil ?_
              rintro wq ⟨⟨_, hq⟩, rfl⟩
              replace hq := HSS.out _ hq
              clear f_c1 f_c2 f_s2 f_row f_F hK hne HSS c1 c2 s2 row hfr S
              obtain ⟨c1, c2, s2, row, hfr⟩ := hq
              have HR := Lib.hid row; have HF := Lib.hid hfr
              have hszq := hfr.size
              clear row hfr
              go_wp2_with (at_builtin; go_loud (refine wpList_append_lies _ rfl _ _ 28 rfl w.heap.size 9 i0 (.string ⟨#[]⟩) 1 16 Tryz.underlying28 hi hz0 hz1 hz2 rfl (by decide) (u8) (k) _ rfl (HR.out.alloc _) ⟨wq.heap.size, 0, none⟩ 1 1 [.string KN] rfl rfl (World.news_of_block (cs := #[.string KN]) (t := 9) (fr := (0, 0)) (heap_alloc_new wq _)) (by simp [Value.oneCell']) (by omega) (by unfold maxLen; omega) (by omega) (by simp; omega) (wq.heap.size + 1) (by simp) ?_); intro g gc w5 hown hgrow hfresh hlt5)
              go_roundw
              case rel => exact ⟨k + 1, by omega, by go_num, HGOOD2.out, by rw [HTS.out, HKO2.out]; exact hown, (HF.out.alloc _).grown hgrow fun q e => .inr (HR.out.lt q e).1⟩
              case measure => simp [intOf]; omega
            | true =>
              simp only [if_true] at hko
              have hvb := HVB.out hvm
              have hvs := HVS.out hvm
              obtain ⟨VB, hVB⟩ : ∃ q, valB { k := vk, b := vb, n := vn, s := vs, u := vu } = q := ⟨_, rfl⟩
              simp only [hVB] at hvb hvs hko
              have hcat2 := cat_run KN VB (by omega)
              obtain ⟨KV, hKV⟩ : ∃ q, KN ++ VB = q := ⟨_, rfl⟩
              simp only [hKV] at hcat2 hko
              have HKO2 := Lib.hid hko; have HVB2 := Lib.hid hvb
              clear hko hvb hvs hVB hKV
              go_wp2_with (first
                | (go_at_call 48; go_loud (refine (HMAY.out _).mono ?_); rintro e w2 ⟨rfl, hf2⟩; replace c1 := hf2.cell id c1; replace c2 := hf2.cell id c2; replace c3 := hf2.cell id c3; replace c4 := hf2.cell id c4; replace c5 := hf2.cell id c5; replace c6 := hf2.cell id c6; replace c7 := hf2.cell id c7; replace s1 := hf2.cell id s1; replace s2 := hf2.cell id s2; replace hfr := hfr.then0 hf2; replace row := row.fr0 hf2)
                | (go_at_call 103; go_loud (refine (HFD.out _ hfr).mono ?_); rintro e w3 ⟨rfl, hf3⟩; replace c1 := hf3.cell id c1; replace c2 := hf3.cell id c2; replace c3 := hf3.cell id c3; replace c4 := hf3.cell id c4; replace c5 := hf3.cell id c5; replace c6 := hf3.cell id c6; replace c7 := hf3.cell id c7; replace s1 := hf3.cell id s1; replace s2 := hf3.cell id s2; replace hfr := hfr.then0 hf3; replace row := row.fr0 hf3))
              obtain ⟨S, hK, hx, hSS⟩ := kept_open (kept_cons c1 (kept_cons c2 (kept_cons c3 (kept_cons c4 (kept_cons c5 (kept_cons c6 (kept_cons c7 (kept_cons s1 (kept_cons s2 (kept_row row (kept_start hfr)))))))))))
              have HSS := Lib.hid hSS
              simp only [forall_and] at hx
              obtain ⟨f_c1, f_c2, f_c3, f_c4, f_c5, f_c6, f_c7, f_s1, f_s2, f_row, f_F⟩ := hx
              clear hSS
              refine wp_region_kept hK (by kernel_rfl) (by kernel_rfl) ?_
              intro hne
              repeat (quiet_step (first | fail))
              refine wpQuiet_nil ?_
              rintro wq ⟨⟨_, hq⟩, rfl⟩
              replace hq := HSS.out _ hq
              clear f_c1 f_c2 f_c3 f_c4 f_c5 f_c6 f_c7 f_s1 f_s2 f_row f_F hK hne HSS c1 c2 c3 c4 c5 c6 c7 s1 s2 row hfr S
              obtain ⟨c1, c2, c3, c4, c5, c6, c7, s1, s2, row, hfr⟩ := hq
              go_wp2
              obtain ⟨S, hK, hx, hSS⟩ := kept_open (kept_cons c1 (kept_cons c2 (kept_cons c3 (kept_cons c4 (kept_cons c5 (kept_cons c6 (kept_cons c7 (kept_cons s2 (kept_row row (kept_start hfr))))))))))
              have HSS := Lib.hid hSS
              simp only [forall_and] at hx
              obtain ⟨f_c1, f_c2, f_c3, f_c4, f_c5, f_c6, f_c7, f_s2, f_row, f_F⟩ := hx
              clear hSS
              refine wp_region_kept hK (by kernel_rfl) (by kernel_rfl) ?_
              intro hne
              repeat (quiet_step (first | (go_at_call 104; refine calls_kept hK (HK2.out _)) | (go_at_call 105; refine calls_kept hK (HN2.out _))))
              refine wpQuiet_nil ?_
              rintro wq ⟨⟨_, hq⟩, rfl⟩
              replace hq := HSS.out _ hq
              clear f_c1 f_c2 f_c3 f_c4 f_c5 f_c6 f_c7 f_s2 f_row f_F hK hne HSS c1 c2 c3 c4 c5 c6 c7 s2 row hfr S
              obtain ⟨c1, c2, c3, c4, c5, c6, c7, s2, row, hfr⟩ := hq
              go_wp2_with (first
                | (go_at_call 106; go_loud (refine (HVB2.out _).mono ?_); rintro e w6 ⟨rfl, hf6⟩; replace hfr := hfr.then0 hf6; replace row := row.fr0 hf6; have HR := Lib.hid row; have HF := Lib.hid hfr; have hszq := hfr.size; clear row hfr)
                | (at_builtin; go_loud (refine wpList_append_lies _ rfl _ _ 28 rfl w.heap.size 9 i0 (.string ⟨#[]⟩) 1 16 Tryz.underlying28 hi hz0 hz1 hz2 rfl (by decide) (u8) (k) _ rfl (HR.out.alloc _) ⟨w6.heap.size, 0, none⟩ 1 1 [.string KV] rfl rfl (World.news_of_block (cs := #[.string KV]) (t := 9) (fr := (0, 0)) (heap_alloc_new w6 _)) (by simp [Value.oneCell']) (by omega) (by unfold maxLen; omega) (by omega) (by simp; omega) (w6.heap.size + 1) (by simp) ?_); intro g gc w5 hown hgrow hfresh hlt5))
              go_roundw
              case rel => exact ⟨k + 1, by omega, by go_num, HGOOD2.out, by rw [HTS.out, HKO2.out]; exact hown, (HF.out.alloc _).grown hgrow fun q e => .inr (HR.out.lt q e).1⟩
              case measure => simp [intOf]; omega
    · obtain rfl : k = xs.length := by omega
      rw [List.take_length] at hrow
      have hce : ce = 0 := by
        rw [HCE.out]
        refine firstNZ_none fun y hy => ?_
        obtain ⟨x, hx, rfl⟩ := List.mem_map.1 hy
        obtain ⟨j, hj, rfl⟩ := List.getElem_of_mem hx
        exact hn.out j hj hj
      have hcc : ck = normS (xs.map (claimOf l)) := by rw [HCK.out, if_pos hce]
      obtain ⟨bb, hst⟩ := strs_of_row (xs := xs.map (claimOf l)) (by simpa using hrow)
      have hcall := rising_any wr bb _ _ hst (by simpa using hx)
      have HCALL := Lib.hid hcall; have HCC := Lib.hid hcc; have HCE0 := Lib.hid hce; have HF := Lib.hid hfr
      clear hcall hrow hfr hst hcc hce hn
      go_wp2_with (go_at_call 107; go_loud (refine HCALL.out.mono ?_); rintro e w1 ⟨v1, b1, rfl, hs1, hb1, hf1⟩)
      go_ret3
      exact ⟨_, _, b1, by rw [HCE0.out]; rfl, by rw [HCC.out]; exact hs1, Nat.le_trans HF.out.size hb1, HF.out.then0 hf1⟩

end Go.Proofs.YthidminepegnoaaGreatDoor
