/- The evaluator's reading operations: slices, conversions, builtins, maps. -/
import Derived.Test.YtedokmdoompidaaGreatDoorEvH
import Derived.Laws.BytesString
namespace Go.Proofs.YtedokmdoompidaaGreatDoor.Ev

def unA (op : UnOp) (x : AV) : Option AV :=
  match op, x with
  | .neg, .int k n => arith .sub k 0 n
  | .xor, .int k n => arith .xor k (if k.signed then -1 else k.max) n
  | .not, .bool b => some (.bool !b)
  | _, _ => none
def bytesA : List AV → Option (List Nat)
  | [] => some []
  | .int .u8 n :: l => (match bytesA l with | some r => some (n.toNat % 256 :: r) | none => none)
  | _ => none
/-- Conversions that lay nothing. -/
def convA (P : Program) (S : St) (src dst : TypeId) (x : AV) : Option AV :=
  match P.underlying src, P.underlying dst, x with
  | some _, some (.int k), .int _ n => some (.int k (k.wrap n))
  | some _, some .string, .int _ n => some (.str (bytesOf (Utf8.encode n)))
  | some _, some .string, .str s => some (.str s)
  | some (.slice e), some .string, .nils => (match P.underlying e with
    | some (.int .u8) => some (.str [])
    | _ => none)
  | some (.slice e), some .string, .sl b o n _ => (match P.underlying e with
    | some (.int .u8) => (match loadC S b o n with
      | some l => (match bytesA l with | some s => some (.str s) | none => none)
      | none => none)
    | _ => none)
  | some (.slice e), some .string, .slu b o n _ => (match P.underlying e with
    | some (.int .u8) => (match loadC S b o n with
      | some l => (match bytesA l with | some s => some (.str s) | none => none)
      | none => none)
    | _ => none)
  | some (.slice e), some .string, .emp => (match P.underlying e with
    | some (.int .u8) => some (.str [])
    | _ => none)
  | _, _, _ => none
def lenA (P : Program) (S : St) (t : TypeId) (x : AV) : Option AV :=
  match P.underlying t, x with
  | some .string, .str s => some (.int .i64 s.length)
  | some (.slice _), .nils => some (.int .i64 0)
  | some (.slice _), .emp => some (.int .i64 0)
  | some (.slice _), .sl _ _ n _ => some (.int .i64 n)
  | some (.slice _), .slu _ _ n _ => some (.int .i64 n)
  | some (.map _ _), .nilm => some (.int .i64 0)
  | some (.map _ _), .map b => (match S.h.get b with
    | some (.map es) => some (.int .i64 es.length)
    | _ => none)
  | some (.array n _), _ => some (.int .i64 n)
  | _, _ => none
def capA (P : Program) (t : TypeId) (x : AV) : Option AV :=
  match P.underlying t, x with
  | some (.slice _), .nils => some (.int .i64 0)
  | some (.slice _), .sl _ _ _ c => some (.int .i64 c)
  | _, _ => none
def maxA : AV → AV → Option AV
  | .int k x, .int _ y => some (.int k (if y > x then y else x))
  | _, _ => none
def minA : AV → AV → Option AV
  | .int k x, .int _ y => some (.int k (if y < x then y else x))
  | _, _ => none
def foldA (f : AV → AV → Option AV) : AV → List AV → Option AV
  | x, [] => some x
  | x, y :: l => match f x y with
    | some z => foldA f z l
    | none => none
/-- The one entry of a key; every entry is looked at. -/
def findA (P : Program) (S : St) (kt : TypeId) (k : AV) : List (AV × AV) → Option (Option AV)
  | [] => some none
  | (k', v) :: es => match eqv P S 20 kt k k', findA P S kt k es with
    | some true, some none => some (some v)
    | some false, some r => some r
    | _, _ => none
/-- Types whose values may be keys without more ado. -/
def keyT (P : Program) (t : TypeId) : Bool := match P.underlying t with
  | some (.int _) => true
  | some .string => true
  | some .bool => true
  | some (.pointer _) => true
  | _ => false
def findM (P : Program) (S : St) (kt : TypeId) (k : AV) : AV → Option (Option AV)
  | .nilm => some none
  | .map b => (match S.h.get b with | some (.map es) => findA P S kt k es | _ => none)
  | _ => none
def lookupA (P : Program) (S : St) (t : TypeId) (m k : AV) (commaOk : Bool) : Option AV :=
  match P.underlying t with
  | some (.map kt e) => bif keyT P kt then
    (match findM P S kt k m with
    | some (some v) => some (if commaOk then .tup [v, .bool true] else v)
    | some none => (match zeroA P e with
      | some z => some (if commaOk then .tup [z, .bool false] else z)
      | none => none)
    | none => none) else none
  | _ => none

section
variable (σ : Nat → Value)
theorem sliceA_run {P : Program} {φ : Phi} {w : World} {t : TypeId} {x y : AV} {lo hi mx : Option AV} {v : Value} {lo' hi' mx' : Option Value} (hv : V σ φ x v) (h1 : VO σ φ lo lo') (h2 : VO σ φ hi hi') (h3 : VO σ φ mx mx') (h : sliceA P t x lo hi mx = some y) :
    ∃ u, (Instr.sliceAt t v lo' hi' mx').run P w = .ok u w ∧ V σ φ y u := by
  unfold sliceA at h
  split at h
  · rename_i s hu
    simp only [V] at hv
    obtain ⟨bs, rfl, hbs⟩ := hv
    split at h
    · cases h
    · simp only [VO] at h3; subst h3
      split at h
      · rename_i l hh m hb
        injection h with h; subst h
        obtain ⟨g1, g2, _⟩ := boundsA_run σ (P := P) (w := w) h1 h2 (mx := none) (mx' := none) rfl hb false _ (Nat.le_refl _)
        have hlen : s.length = bs.size := by rw [← hbs]; simp
        refine ⟨.string (bs.extract l hh), ?_, ?_⟩
        · rw [hlen] at g1
          simp [Instr.sliceAt, Instr.slice, run_underlying hu, g1]
        · simp only [V]
          refine ⟨_, rfl, ?_⟩
          rw [← hbs]
          simp [List.map_take, List.map_drop, List.take_drop]
      · cases h
  · rename_i e hu
    simp only [V] at hv; subst hv
    split at h
    · rename_i l hh m s hb hs
      injection h with h; subst h
      obtain ⟨g1, g2, g3, g4, g5, g6⟩ := boundsA_run σ (P := P) (w := w) h1 h2 h3 hb true _ (Nat.le_refl _)
      have hm : (if mx.isSome = true then m else 0) = 0 := by split <;> omega
      have hh0 : hh = 0 := by
        cases hi with
        | none => exact g6 rfl
        | some _ => have := g3 rfl; omega
      have hl0 : l = 0 := by omega
      rw [hm, hh0, hl0] at g1
      exact ⟨.slice none 0 0, by simp [Instr.sliceAt, Instr.slice, run_underlying hu, g1, run_szOf P hs], by simp only [V]⟩
    · cases h
  · rename_i e b o len cap hu
    simp only [V] at hv
    obtain ⟨r, n, hφ, rfl⟩ := hv
    split at h
    · rename_i l hh m s hb hs
      injection h with h; subst h
      obtain ⟨g1, g2, g3, g4, g5, g6⟩ := boundsA_run σ (P := P) (w := w) h1 h2 h3 hb true _ (Nat.le_refl _)
      have hm : (if mx.isSome = true then m else cap) = m := by
        cases mx with
        | none => simp [g5 rfl]
        | some _ => rfl
      rw [hm] at g1
      refine ⟨.slice (some ⟨r, if m = l then o else o + l * s, none⟩) (hh - l) (m - l), ?_, by simp only [V]; exact ⟨r, n, hφ, rfl⟩⟩
      simp only [Instr.sliceAt, Instr.slice, Sem.run_bind, run_underlying hu, g1, run_szOf P hs, Result.andThen_ok, Sem.run_pure]
      congr 2
      split <;> simp [addr_add]
    · cases h
  · rename_i e b o len z hu
    simp only [V] at hv
    obtain ⟨r, n, c, hφ, rfl, hc, hlc⟩ := hv
    split at h
    · rename_i s hs
      split at h
      · rename_i hsz
        subst hsz
        split at h
        · rename_i mv
          split at h
          · rename_i l hh m hb
            injection h with h; subst h
            obtain ⟨g1, g2, g3, g4, g5, g6⟩ := boundsA_run σ (P := P) (w := w) h1 h2 h3 hb true c hlc
            simp only [Option.isSome_some, if_true] at g1
            refine ⟨.slice (some ⟨r, if m = l then o else o + l * s, none⟩) (hh - l) (m - l), ?_, by simp only [V]; exact ⟨r, n, hφ, rfl⟩⟩
            simp only [Instr.sliceAt, Instr.slice, Sem.run_bind, run_underlying hu, g1, run_szOf P hs, Result.andThen_ok, Sem.run_pure]
            congr 2
            split <;> simp [addr_add]
          · cases h
        · split at h
          · rename_i l hh m hb
            simp only [VO] at h3; subst h3
            obtain ⟨g1, g2, g3, g4, g5, g6⟩ := boundsA_run σ (P := P) (w := w) h1 h2 (mx := none) (mx' := none) rfl hb true c hlc
            have hhl : hh ≤ len := by
              cases hi with
              | none => rw [g6 rfl]; exact Nat.le_refl _
              | some _ => have := g3 rfl; omega
            simp only [Option.isSome_none, Bool.false_eq_true, if_false] at g1
            have hrun : (Instr.sliceAt t (.slice (some ⟨r, o, none⟩) len c) lo' hi' none).run P w = .ok (.slice (if c = l then some ⟨r, o, none⟩ else some ⟨r, o + l * s, none⟩) (hh - l) (c - l)) w := by
              simp only [Instr.sliceAt, Instr.slice, Sem.run_bind, run_underlying hu, g1, run_szOf P hs, Result.andThen_ok, Sem.run_pure]
              congr 2
              split <;> simp [addr_add]
            refine ⟨_, hrun, ?_⟩
            split at h
            · rename_i hl
              injection h with h; subst h
              have : hh - l = 0 := by omega
              simp only [V, this]
              split
              · exact ⟨_, _, rfl⟩
              · exact ⟨_, _, rfl⟩
            · rename_i hl
              injection h with h; subst h
              have hcl : c ≠ l := by omega
              rw [if_neg hcl]
              simp only [V]
              refine ⟨r, n, c - l, hφ, rfl, ?_, by omega⟩
              rw [Nat.sub_mul, ← hc]
              have : l * s ≤ c * s := Nat.mul_le_mul_right _ (by omega)
              omega
          · cases h
      · cases h
    · cases h
  · rename_i e hu
    simp only [V] at hv
    obtain ⟨a, c, rfl⟩ := hv
    split at h
    · split at h
      · rename_i l hh m s hb hs
        injection h with h; subst h
        obtain ⟨g1, g2, g3, g4, g5, g6⟩ := boundsA_run σ (P := P) (w := w) h1 h2 h3 hb true c (Nat.zero_le _)
        simp only [Option.isSome_some, if_true] at g1
        have hm0 : m = 0 := by omega
        have hh0 : hh = 0 := by
          cases hi with
          | none => exact g6 rfl
          | some _ => have := g3 rfl; omega
        have hl0 : l = 0 := by omega
        rw [hh0, hl0, hm0] at g1
        refine ⟨.slice (some a) 0 (0 - 0), ?_, by simp only [V]; exact ⟨_, _, rfl⟩⟩
        simp only [Instr.sliceAt, Instr.slice, Sem.run_bind, run_underlying hu, g1, run_szOf P hs, Result.andThen_ok, Sem.run_pure, if_true]
      · cases h
    · split at h
      · rename_i l hh m s hb hs
        injection h with h; subst h
        simp only [VO] at h3; subst h3
        obtain ⟨g1, g2, g3, g4, g5, g6⟩ := boundsA_run σ (P := P) (w := w) h1 h2 (mx := none) (mx' := none) rfl hb true c (Nat.zero_le _)
        simp only [Option.isSome_none, Bool.false_eq_true, if_false] at g1
        have hh0 : hh = 0 := by
          cases hi with
          | none => exact g6 rfl
          | some _ => have := g3 rfl; omega
        have hl0 : l = 0 := by omega
        rw [hh0, hl0] at g1
        refine ⟨.slice (if c = 0 then some a else some (a.add (0 * s))) 0 (c - 0), ?_, ?_⟩
        · simp only [Instr.sliceAt, Instr.slice, Sem.run_bind, run_underlying hu, g1, run_szOf P hs, Result.andThen_ok, Sem.run_pure, Option.map_some]
        · simp only [V]; split
          · exact ⟨_, _, rfl⟩
          · exact ⟨_, _, rfl⟩
      · cases h
  · rename_i n e b o hu
    simp only [V] at hv
    obtain ⟨r, k, hφ, rfl⟩ := hv
    split at h
    · rename_i l hh m s hb hs
      injection h with h; subst h
      obtain ⟨g1, g2, g3, g4, g5, g6⟩ := boundsA_run σ (P := P) (w := w) h1 h2 h3 hb false _ (Nat.le_refl _)
      have hm : (if mx.isSome = true then m else n) = m := by
        cases mx with
        | none => simp [g5 rfl]
        | some _ => rfl
      rw [hm] at g1
      refine ⟨.slice (some ⟨r, if m = l then o else o + l * s, none⟩) (hh - l) (m - l), ?_, by simp only [V]; exact ⟨r, k, hφ, rfl⟩⟩
      simp only [Instr.sliceAt, Sem.run_bind, run_underlying hu, Instr.sureAddr, g1, run_szOf P hs, Result.andThen_ok, Sem.run_pure]
      congr 2
      split <;> simp [addr_add]
    · cases h
  · cases h
theorem unA_run {P : Program} {φ : Phi} {w : World} {op : UnOp} {x y : AV} {v : Value} (hv : V σ φ x v) (h : unA op x = some y) : ∃ u, (Op.unary op v).run P w = .ok u w ∧ V σ φ y u := by
  unfold unA at h
  split at h
  · simp only [V] at hv; subst hv
    simp only [arith, Option.some.injEq] at h; subst h
    exact ⟨numV (.int _ _), by simp only [Op.unary, Op.intArith, Sem.run_pure, numV]; rfl, by simp only [V, numV]⟩
  · simp only [V] at hv; subst hv
    simp only [arith, Option.some.injEq] at h; subst h
    exact ⟨numV (.int _ _), by simp only [Op.unary, Op.intBits, Sem.run_pure, numV]; rfl, by simp only [V, numV]⟩
  · simp only [V] at hv; subst hv
    simp only [Option.some.injEq] at h; subst h
    exact ⟨numV (.bool _), by simp only [Op.unary, Sem.run_pure, numV]; rfl, by simp only [V, numV]⟩
  · cases h
theorem bytesA_spec {φ : Phi} : ∀ {l : List AV} {vs : List Value} {s : List Nat}, VL σ φ l vs → bytesA l = some s → ∃ ns : List Int, vs = ns.map (Value.int .u8) ∧ s = ns.map (fun n => n.toNat % 256)
  | [], vs, s, hv, h => by
    simp only [VL] at hv; subst hv
    simp only [bytesA, Option.some.injEq] at h; subst h
    exact ⟨[], rfl, rfl⟩
  | x :: l, vs, s, hv, h => by
    simp only [VL] at hv
    obtain ⟨v, r, rfl, h1, h2⟩ := hv
    unfold bytesA at h
    split at h
    · rename_i he; cases he
    · rename_i n l' he
      injection he with he1 he2; subst he1; subst he2
      split at h
      · rename_i r' hr
        injection h with h; subst h
        obtain ⟨ns, rfl, rfl⟩ := bytesA_spec h2 hr
        simp only [V] at h1; subst h1
        exact ⟨n :: ns, rfl, rfl⟩
      · cases h
    · cases h
theorem foldl_bytes : ∀ (ns : List Int) (s : ByteArray), bytesOf (ns.foldl (fun r n => r.push (UInt8.ofNat n.toNat)) s) = bytesOf s ++ ns.map (fun n => n.toNat % 256)
  | [], s => by simp
  | n :: ns, s => by
    simp only [List.foldl_cons]
    rw [foldl_bytes ns]
    simp [bytesOf]
theorem toStr_run {P : Program} {φ : Phi} {w : World} {l : List AV} {vs : List Value} {s : List Nat} {a : Addr} {n c : Nat} (hv : VL σ φ l vs) (hl : vs.length = n) (hs : bytesA l = some s) (hr : (loadCells a n).run P w = .ok vs.toArray w) :
    ∃ u, (Conv.bytesToString (.slice (some a) n c)).run P w = .ok u w ∧ V σ φ (.str s) u := by
  obtain ⟨ns, rfl, rfl⟩ := bytesA_spec σ hv hs
  refine ⟨_, run_bytesToString w a n c ns hr, ?_⟩
  simp only [V]
  refine ⟨_, rfl, ?_⟩
  have := foldl_bytes ns ByteArray.empty
  simpa [bytesOf] using this
theorem convA_run {P : Program} {φ : Phi} {S : St} {w : World} (hW : W σ φ S w) {src dst : TypeId} {x y : AV} {v : Value} (hv : V σ φ x v) (h : convA P S src dst x = some y) : ∃ u, (convert src dst v).run P w = .ok u w ∧ V σ φ y u := by
  unfold convA at h
  split at h
  · rename_i vd kk kx n h1 h2
    simp only [V] at hv; subst hv
    injection h with h; subst h
    refine ⟨.int kk (kk.wrap n), ?_, by simp only [V]⟩
    simp only [convert, Sem.run_bind, run_underlying h1, run_underlying h2, Result.andThen_ok, Conv.intToInt, Sem.run_pure]
  · rename_i h1 h2
    simp only [V] at hv; subst hv
    injection h with h; subst h
    refine ⟨.string (Utf8.encode _), ?_, by simp only [V]; exact ⟨_, rfl, rfl⟩⟩
    simp only [convert, Sem.run_bind, run_underlying h1, run_underlying h2, Result.andThen_ok, Conv.intToString, Sem.run_pure]
  · rename_i h1 h2
    simp only [V] at hv
    obtain ⟨bs, rfl, hb⟩ := hv
    injection h with h; subst h
    refine ⟨.string bs, ?_, by simp only [V]; exact ⟨_, rfl, hb⟩⟩
    simp only [convert, Sem.run_bind, run_underlying h1, run_underlying h2, Result.andThen_ok, Sem.run_pure]
  · rename_i e h1 h2
    simp only [V] at hv; subst hv
    split at h
    · rename_i h3
      injection h with h; subst h
      refine ⟨.string .empty, ?_, by simp only [V]; exact ⟨_, rfl, by simp⟩⟩
      simp only [convert, Sem.run_bind, run_underlying h1, run_underlying h2, run_underlying h3, Result.andThen_ok, Conv.bytesToString, Sem.run_pure]
    · cases h
  · rename_i e b o n c h1 h2
    simp only [V] at hv
    obtain ⟨r, m, hφ, rfl⟩ := hv
    split at h
    · rename_i h3
      split at h
      · rename_i l hl
        split at h
        · rename_i s hs
          injection h with h; subst h
          obtain ⟨vs, g1, g2, g3⟩ := loadC_run σ (P := P) hW hφ hl
          obtain ⟨u, k1, k2⟩ := toStr_run σ (c := c) g1 g2 hs g3
          exact ⟨u, by simp only [convert, Sem.run_bind, run_underlying h1, run_underlying h2, run_underlying h3, Result.andThen_ok, k1], k2⟩
        · cases h
      · cases h
    · cases h
  · rename_i e b o n z h1 h2
    simp only [V] at hv
    obtain ⟨r, m, c, hφ, rfl, _⟩ := hv
    split at h
    · rename_i h3
      split at h
      · rename_i l hl
        split at h
        · rename_i s hs
          injection h with h; subst h
          obtain ⟨vs, g1, g2, g3⟩ := loadC_run σ (P := P) hW hφ hl
          obtain ⟨u, k1, k2⟩ := toStr_run σ (c := c) g1 g2 hs g3
          exact ⟨u, by simp only [convert, Sem.run_bind, run_underlying h1, run_underlying h2, run_underlying h3, Result.andThen_ok, k1], k2⟩
        · cases h
      · cases h
    · cases h
  · rename_i e h1 h2
    simp only [V] at hv
    obtain ⟨a, c, rfl⟩ := hv
    split at h
    · rename_i h3
      injection h with h; subst h
      obtain ⟨u, k1, k2⟩ := toStr_run σ (P := P) (φ := φ) (w := w) (l := []) (vs := []) (s := []) (a := a) (n := 0) (c := c) (by simp only [VL]) rfl rfl rfl
      exact ⟨u, by simp only [convert, Sem.run_bind, run_underlying h1, run_underlying h2, run_underlying h3, Result.andThen_ok, k1], k2⟩
    · cases h
  · cases h
theorem ML.len {φ : Phi} : ∀ {es : List (AV × AV)} {l : List MapEntry}, ML σ φ es l → l.length = es.length
  | [], l, h => by simp only [ML] at h; subst h; rfl
  | x :: es, l, h => by obtain ⟨e, r, rfl, _, _, h4⟩ := h; simp [ML.len h4]
theorem lenA_run {P : Program} {φ : Phi} {S : St} {w : World} (hW : W σ φ S w) {t ty : TypeId} {ts : Array TypeId} (ht : ts[0]? = some t) {x y : AV} {v : Value} {vs : Array Value} (hvs : vs[0]? = some v) (hv : V σ φ x v) (h : lenA P S t x = some y) : ∃ u, (Builtin.len_ ts ty vs).run P w = .ok u w ∧ V σ φ y u := by
  unfold lenA at h
  split at h
  · rename_i h1
    simp only [V] at hv
    obtain ⟨bs, rfl, hb⟩ := hv
    injection h with h; subst h
    refine ⟨goInt bs.size, by simp [Builtin.len_, ht, hvs, run_underlying h1], ?_⟩
    simp only [V, goInt]
    rw [← hb]; simp
  · rename_i h1
    simp only [V] at hv; subst hv
    injection h with h; subst h
    exact ⟨goInt 0, by simp [Builtin.len_, ht, hvs, run_underlying h1], by simp only [V, goInt]⟩
  · rename_i h1
    simp only [V] at hv; obtain ⟨a, c, rfl⟩ := hv
    injection h with h; subst h
    exact ⟨goInt 0, by simp [Builtin.len_, ht, hvs, run_underlying h1], by simp only [V, goInt]⟩
  · rename_i n c h1
    simp only [V] at hv; obtain ⟨r, m, _, rfl⟩ := hv
    injection h with h; subst h
    exact ⟨goInt n, by simp [Builtin.len_, ht, hvs, run_underlying h1], by simp only [V, goInt]⟩
  · rename_i n z h1
    simp only [V] at hv; obtain ⟨r, m, c, _, rfl, _⟩ := hv
    injection h with h; subst h
    exact ⟨goInt n, by simp [Builtin.len_, ht, hvs, run_underlying h1], by simp only [V, goInt]⟩
  · rename_i h1
    simp only [V] at hv; subst hv
    injection h with h; subst h
    exact ⟨goInt 0, by simp [Builtin.len_, ht, hvs, run_underlying h1], by simp only [V, goInt]⟩
  · rename_i h1
    simp only [V] at hv; obtain ⟨r, m, hφ, rfl⟩ := hv
    split at h
    · rename_i es hb
      injection h with h; subst h
      obtain ⟨o, ho, ents, clock, rfl, l, hl, hm⟩ := hW.at_ _ _ _ _ hb hφ
      have : ents.size = es.length := by rw [← ML.len σ hm, hl.length_eq, Array.length_toList]
      refine ⟨goInt ents.size, ?_, by simp only [V, goInt, this]⟩
      simp [Builtin.len_, ht, hvs, run_underlying h1, getObj, Sem.run, ho]
    · cases h
  · rename_i n e h1
    injection h with h; subst h
    refine ⟨goInt n, ?_, by simp only [V, goInt]⟩
    simp only [Builtin.len_, ht, hvs, Sem.run_bind, run_underlying h1, Result.andThen_ok]
    cases v <;> simp
  · cases h
end
end Go.Proofs.YtedokmdoompidaaGreatDoor.Ev
