/- What the two sums are, in plain numbers: of words of w bits, of bytes, of blocks. No program in sight. -/
namespace Go.Proofs.YtilpbjcbffbjeaaGreatDoor.Sha
/-- turned right by n in w bits -/
def ror (w x n : Nat) : Nat := (x / 2 ^ n) ||| (x * 2 ^ (w - n) % 2 ^ w)
def mix (w x a b c : Nat) (sh : Bool) : Nat := (ror w x a ^^^ ror w x b) ^^^ (if sh then x / 2 ^ c else ror w x c)
structure Kind where
  w : Nat
  a : Nat × Nat × Nat
  b : Nat × Nat × Nat
  c : Nat × Nat × Nat
  d : Nat × Nat × Nat
  block : Nat
  size : Nat
  fin : Nat
  keys : List Nat
  init : List Nat
def add (w x y : Nat) : Nat := (x + y) % 2 ^ w
/-- a number's bytes, the highest first, as far as m of them -/
def wpart (w : Nat) (l : List Nat) : Nat := l.foldl (fun acc c => (acc * 256 % 2 ^ w) ||| c) 0
def wordAt (k : Kind) (bl : List Nat) (i : Nat) : Nat := wpart k.w ((bl.drop (k.w / 8 * i)).take (k.w / 8))
def words (k : Kind) (bl : List Nat) : List Nat := (List.range 16).map (wordAt k bl)
def sched (k : Kind) (p : List Nat) (i : Nat) : Nat :=
  add k.w (add k.w (add k.w (p.getD (i - 16) 0) (mix k.w (p.getD (i - 15) 0) k.a.1 k.a.2.1 k.a.2.2 true)) (p.getD (i - 7) 0)) (mix k.w (p.getD (i - 2) 0) k.b.1 k.b.2.1 k.b.2.2 true)
def grow (k : Kind) (l : List Nat) : Nat → List Nat
  | 0 => l
  | n + 1 => grow k l n ++ [sched k (grow k l n) (16 + n)]
def tOf (k : Kind) (v : List Nat) (ki wi : Nat) : Nat :=
  add k.w (add k.w (add k.w (add k.w (v.getD 7 0) (mix k.w (v.getD 4 0) k.c.1 k.c.2.1 k.c.2.2 false)) (((v.getD 4 0) &&& (v.getD 5 0)) ^^^ ((2 ^ k.w - 1 - v.getD 4 0) &&& (v.getD 6 0)))) ki) wi
def uOf (k : Kind) (v : List Nat) : Nat :=
  add k.w (mix k.w (v.getD 0 0) k.d.1 k.d.2.1 k.d.2.2 false) (((v.getD 0 0 &&& v.getD 1 0) ^^^ (v.getD 0 0 &&& v.getD 2 0)) ^^^ (v.getD 1 0 &&& v.getD 2 0))
def rnd (k : Kind) (v : List Nat) (ki wi : Nat) : List Nat :=
  [add k.w (tOf k v ki wi) (uOf k v), v.getD 0 0, v.getD 1 0, v.getD 2 0, add k.w (v.getD 3 0) (tOf k v ki wi), v.getD 4 0, v.getD 5 0, v.getD 6 0]
def rounds (k : Kind) (ws : List Nat) (v : List Nat) : Nat → List Nat
  | 0 => v
  | n + 1 => rnd k (rounds k ws v n) (k.keys.getD n 0) (ws.getD n 0)
def next (k : Kind) (s : List Nat) (bl : List Nat) : List Nat :=
  (List.range 8).map fun i => add k.w ((rounds k (grow k (words k bl) (k.keys.length - 16)) s k.keys.length).getD i 0) (s.getD i 0)
/-- a word's bytes, the highest first -/
def bytesOf (w x : Nat) : List Nat := (List.range (w / 8)).map fun i => (x / 2 ^ (w - 8 - 8 * i)) % 256
def told (k : Kind) (s : List Nat) : List Nat := (s.flatMap (bytesOf k.w)).take k.size
/-- the state behind n blocks -/
def stateN (k : Kind) (t : List Nat) : Nat → List Nat
  | 0 => k.init
  | n + 1 => next k (stateN k t n) ((t.drop (n * k.block)).take k.block)
def stateOf (k : Kind) (t : List Nat) : List Nat := stateN k t (t.length / k.block)
/-- how many noughts stand behind the byte 128 -/
def padN (k : Kind) (n : Nat) : Nat := (2 * k.block - 1 - k.fin - n % k.block) % k.block
def pad (k : Kind) (n : Nat) : List Nat := 128 :: (List.replicate (padN k n) 0 ++ (List.replicate (k.fin - 8) 0 ++ bytesOf 64 (8 * n % 2 ^ 64)))
def sum (k : Kind) (t : List Nat) : List Nat := told k (stateOf k (t ++ pad k t.length))
def padded (k : Kind) (key : List Nat) (x : Nat) : List Nat := (List.range k.block).map fun i => (key.getD i 0) ^^^ x
def short (k : Kind) (key : List Nat) : List Nat := if k.block < key.length then sum k key else key
def mac (k : Kind) (key s : List Nat) : List Nat := sum k (padded k (short k key) 92 ++ sum k (padded k (short k key) 54 ++ s))
def keys32 : List Nat := [1116352408, 1899447441, 3049323471, 3921009573, 961987163, 1508970993,
  2453635748, 2870763221, 3624381080, 310598401, 607225278, 1426881987,
  1925078388, 2162078206, 2614888103, 3248222580, 3835390401, 4022224774,
  264347078, 604807628, 770255983, 1249150122, 1555081692, 1996064986,
  2554220882, 2821834349, 2952996808, 3210313671, 3336571891, 3584528711,
  113926993, 338241895, 666307205, 773529912, 1294757372, 1396182291,
  1695183700, 1986661051, 2177026350, 2456956037, 2730485921, 2820302411,
  3259730800, 3345764771, 3516065817, 3600352804, 4094571909, 275423344,
  430227734, 506948616, 659060556, 883997877, 958139571, 1322822218,
  1537002063, 1747873779, 1955562222, 2024104815, 2227730452, 2361852424,
  2428436474, 2756734187, 3204031479, 3329325298]
def keys64 : List Nat := [4794697086780616226, 8158064640168781261, 13096744586834688815, 16840607885511220156, 4131703408338449720, 6480981068601479193,
  10538285296894168987, 12329834152419229976, 15566598209576043074, 1334009975649890238, 2608012711638119052, 6128411473006802146,
  8268148722764581231, 9286055187155687089, 11230858885718282805, 13951009754708518548, 16472876342353939154, 17275323862435702243,
  1135362057144423861, 2597628984639134821, 3308224258029322869, 5365058923640841347, 6679025012923562964, 8573033837759648693,
  10970295158949994411, 12119686244451234320, 12683024718118986047, 13788192230050041572, 14330467153632333762, 15395433587784984357,
  489312712824947311, 1452737877330783856, 2861767655752347644, 3322285676063803686, 5560940570517711597, 5996557281743188959,
  7280758554555802590, 8532644243296465576, 9350256976987008742, 10552545826968843579, 11727347734174303076, 12113106623233404929,
  14000437183269869457, 14369950271660146224, 15101387698204529176, 15463397548674623760, 17586052441742319658, 1182934255886127544,
  1847814050463011016, 2177327727835720531, 2830643537854262169, 3796741975233480872, 4115178125766777443, 5681478168544905931,
  6601373596472566643, 7507060721942968483, 8399075790359081724, 8693463985226723168, 9568029438360202098, 10144078919501101548,
  10430055236837252648, 11840083180663258601, 13761210420658862357, 14299343276471374635, 14566680578165727644, 15097957966210449927,
  16922976911328602910, 17689382322260857208, 500013540394364858, 748580250866718886, 1242879168328830382, 1977374033974150939,
  2944078676154940804, 3659926193048069267, 4368137639120453308, 4836135668995329356, 5532061633213252278, 6448918945643986474,
  6902733635092675308, 7801388544844847127]
def k32 : Kind := ⟨32, (7, 18, 3), (17, 19, 10), (6, 11, 25), (2, 13, 22), 64, 32, 8, keys32,
  [0x6a09e667, 0xbb67ae85, 0x3c6ef372, 0xa54ff53a, 0x510e527f, 0x9b05688c, 0x1f83d9ab, 0x5be0cd19]⟩
def k64 : Kind := ⟨64, (1, 8, 7), (19, 61, 6), (14, 18, 41), (28, 34, 39), 128, 48, 16, keys64,
  [0xcbbb9d5dc1059ed8, 0x629a292a367cd507, 0x9159015a3070dd17, 0x152fecd8f70e5939, 0x67332667ffc00b31, 0x8eb44a8768581511, 0xdb0c2e0d64f98fa7, 0x47b5481dbefa4fa4]⟩

theorem abc32 : sum k32 [97, 98, 99] = [186, 120, 22, 191, 143, 1, 207, 234, 65, 65, 64, 222, 93, 174, 34, 35, 176, 3, 97, 163, 150, 23, 122, 156, 180, 16, 255, 97, 242, 0, 21, 173] := by decide +kernel
theorem abc64 : sum k64 [97, 98, 99] = [203, 0, 117, 63, 69, 163, 94, 139, 181, 160, 61, 105, 154, 198, 80, 7, 39, 44, 50, 171, 14, 222, 209, 99, 26, 139, 96, 90, 67, 255, 91, 237, 128, 134, 7, 43, 161, 231, 204, 35, 88, 186, 236, 161, 52, 200, 37, 167] := by decide +kernel
end Go.Proofs.YtilpbjcbffbjeaaGreatDoor.Sha
