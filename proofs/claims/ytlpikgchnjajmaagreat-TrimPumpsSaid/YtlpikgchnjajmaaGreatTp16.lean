/-
  The types of the program, as the abstract run asks for them.
-/
import Derived.Test.YtlpikgchnjajmaaGreatTp15
set_option linter.all false
set_option maxRecDepth 100000
set_option maxHeartbeats 4000000
namespace Go.Proofs.YtlpikgchnjajmaaGreat
variable{fn:Func}{G Q:Prop}{t:Tc}{α:Type}{n:Unit->Int}{c:aH}{r:xS}
def Az:kd := [
 (3,⟨1,.int .i64,[.lit .i64 0],[]⟩),(4,⟨1,.bool,[.aG false],[]⟩),(5,⟨1,.int .u8,[.lit .u8 0],[]⟩),(1,⟨1,.other,[.un],[]⟩),(2,⟨1,.int .i64,[.lit .i64 0],[]⟩),(7,⟨4,.struct [(0,1,false),(1,1,false),(2,1,false),(3,1,false)],[.lit .i64 0,.lit .i64 0,.aG false,.lit .u8 0],[]⟩),(9,⟨1,.str,[.str fun _=>ic],[]⟩),(12,⟨1,.int .u64,[.lit .u64 0],[]⟩),(13,⟨2,.struct [(0,1,false),(1,1,false)],[.str fun _=>ic,.lit .u64 0],[]⟩),(15,⟨1,.other,[.un],[]⟩),(16,⟨1,.other,[.un],[]⟩),(17,⟨1,.other,[.un],[]⟩),(18,⟨1,.struct [(0,1,false)],[.un],[]⟩),(21,⟨1,.int .i32,[.lit .i32 0],[]⟩),(22,⟨1,.slice 49 12 112,[.nil],[]⟩),(23,⟨1,.slice 175 2 32,[.nil],[]⟩),(24,⟨4,.struct [(0,1,false),(1,1,false),(2,1,false),(3,1,false)],[.lit .i64 0,.lit .i64 0,.lit .i64 0,.lit .i64 0],[]⟩),(25,⟨4,.struct [(0,1,false),(1,1,false),(2,1,false),(3,1,false)],[.lit .i64 0,.lit .i64 0,.lit .i64 0,.lit .i64 0],[.int .i64,.int .i64,.int .i64,.int .i64]⟩),(26,⟨1,.slice 43 5 40,[.nil],[]⟩),(27,⟨1,.slice 282 5 40,[.nil],[]⟩),(28,⟨1,.slice 46 6 64,[.nil],[]⟩),(29,⟨4,.struct [(0,1,false),(1,1,false),(2,1,false),(3,1,false)],[.lit .i64 0,.lit .i64 0,.lit .i64 0,.lit .i64 0],[]⟩),(30,⟨4,.struct [(0,1,false),(1,1,false),(2,1,false),(3,1,false)],[.lit .i64 0,.lit .i64 0,.lit .i64 0,.lit .i64 0],[.int .i64,.int .i64,.int .i64,.int .i64]⟩),(31,⟨13,.struct [(0,1,false),(1,1,false),(2,4,true),(6,1,false),(7,1,false),(8,1,false),(9,4,true)],[.nil,.nil,.lit .i64 0,.lit .i64 0,.lit .i64 0,.lit .i64 0,.nil,.nil,.nil,.lit .i64 0,.lit .i64 0,.lit .i64 0,.lit .i64 0],[]⟩),(32,⟨13,.struct [(0,1,false),(1,1,false),(2,4,true),(6,1,false),(7,1,false),(8,1,false),(9,4,true)],[.nil,.nil,.lit .i64 0,.lit .i64 0,.lit .i64 0,.lit .i64 0,.nil,.nil,.nil,.lit .i64 0,.lit .i64 0,.lit .i64 0,.lit .i64 0],[]⟩),(33,⟨1,.slice 139 9 64,[.nil],[]⟩),(34,⟨1,.slice 98 4 32,[.nil],[]⟩),(35,⟨1,.slice 3 1 8,[.nil],[]⟩),(36,⟨1,.other,[.un],[]⟩),(37,⟨1,.other,[.un],[]⟩),(38,⟨1,.slice 35 1 24,[.nil],[]⟩),(40,⟨1,.other,[.un],[]⟩),(41,⟨1,.other,[.un],[]⟩),(42,⟨5,.struct [(0,1,false),(1,1,false),(2,1,false),(3,1,false),(4,1,false)],[.lit .i64 0,.lit .i64 0,.lit .i64 0,.lit .i64 0,.lit .i64 0],[]⟩),(43,⟨5,.struct [(0,1,false),(1,1,false),(2,1,false),(3,1,false),(4,1,false)],[.lit .i64 0,.lit .i64 0,.lit .i64 0,.lit .i64 0,.lit .i64 0],[.int .i64,.int .i64,.int .i64,.int .i64,.int .i64]⟩),(44,⟨1,.other,[.un],[]⟩),(45,⟨6,.struct [(0,1,false),(1,1,false),(2,1,false),(3,1,false),(4,1,false),(5,1,false)],[.lit .i64 0,.lit .i64 0,.lit .i64 0,.lit .i64 0,.lit .i64 0,.nil],[]⟩),(46,⟨6,.struct [(0,1,false),(1,1,false),(2,1,false),(3,1,false),(4,1,false),(5,1,false)],[.lit .i64 0,.lit .i64 0,.lit .i64 0,.lit .i64 0,.lit .i64 0,.nil],[]⟩),(47,⟨1,.other,[.un],[]⟩),(48,⟨12,.struct [(0,1,false),(1,1,false),(2,1,false),(3,1,false),(4,1,false),(5,1,false),(6,1,false),(7,1,false),(8,1,false),(9,1,false),(10,1,false),(11,1,false)],[.lit .i64 0,.lit .i64 0,.aG false,.lit .i64 0,.lit .i64 0,.lit .i64 0,.lit .i64 0,.lit .i64 0,.nil,.lit .i64 0,.lit .i64 0,.lit .i64 0],[]⟩),(49,⟨12,.struct [(0,1,false),(1,1,false),(2,1,false),(3,1,false),(4,1,false),(5,1,false),(6,1,false),(7,1,false),(8,1,false),(9,1,false),(10,1,false),(11,1,false)],[.lit .i64 0,.lit .i64 0,.aG false,.lit .i64 0,.lit .i64 0,.lit .i64 0,.lit .i64 0,.lit .i64 0,.nil,.lit .i64 0,.lit .i64 0,.lit .i64 0],[]⟩),(50,⟨17,.array 17 47 1 false,[.un,.un,.un,.un,.un,.un,.un,.un,.un,.un,.un,.un,.un,.un,.un,.un,.un],[]⟩),(51,⟨1,.slice 323 4 4,[.nil],[]⟩),(52,⟨1,.int .u32,[.lit .u32 0],[]⟩),(53,⟨1,.slice 326 4 4,[.nil],[]⟩),(54,⟨1,.slice 239 6 10,[.nil],[]⟩),(55,⟨1,.slice 5 1 1,[.nil],[]⟩),(56,⟨1,.int .u16,[.lit .u16 0],[]⟩),(57,⟨1,.int .i16,[.lit .i16 0],[]⟩),(58,⟨9,.struct [(0,1,false),(1,1,false),(2,1,false),(3,1,false),(4,1,false),(5,1,false),(6,1,false),(7,1,false),(8,1,false)],[.nil,.lit .u32 0,.nil,.nil,.nil,.lit .u16 0,.lit .u16 0,.lit .u16 0,.lit .i16 0],[]⟩),(59,⟨9,.struct [(0,1,false),(1,1,false),(2,1,false),(3,1,false),(4,1,false),(5,1,false),(6,1,false),(7,1,false),(8,1,false)],[.nil,.lit .u32 0,.nil,.nil,.nil,.lit .u16 0,.lit .u16 0,.lit .u16 0,.lit .i16 0],[]⟩),(61,⟨1,.other,[.un],[]⟩),(62,⟨4,.struct [(0,1,false),(1,1,false),(2,1,false),(3,1,false)],[.lit .i64 0,.lit .i64 0,.lit .i64 0,.lit .i64 0],[.int .i64,.int .i64,.int .i64,.int .i64]⟩),(63,⟨1,.int .i64,[.lit .i64 0],[]⟩),(65,⟨1,.other,[.un],[]⟩),(66,⟨1,.other,[.un],[]⟩),(67,⟨1,.other,[.un],[]⟩),(68,⟨1,.other,[.un],[]⟩),(69,⟨8,.array 8 52 1 false,[.lit .u32 0,.lit .u32 0,.lit .u32 0,.lit .u32 0,.lit .u32 0,.lit .u32 0,.lit .u32 0,.lit .u32 0],[.int .u32,.int .u32,.int .u32,.int .u32,.int .u32,.int .u32,.int .u32,.int .u32]⟩),(70,⟨17,.struct [(0,1,false),(1,8,true),(9,8,true)],[.aG false,.lit .u32 0,.lit .u32 0,.lit .u32 0,.lit .u32 0,.lit .u32 0,.lit .u32 0,.lit .u32 0,.lit .u32 0,.lit .u32 0,.lit .u32 0,.lit .u32 0,.lit .u32 0,.lit .u32 0,.lit .u32 0,.lit .u32 0,.lit .u32 0],[]⟩),(71,⟨17,.struct [(0,1,false),(1,8,true),(9,8,true)],[.aG false,.lit .u32 0,.lit .u32 0,.lit .u32 0,.lit .u32 0,.lit .u32 0,.lit .u32 0,.lit .u32 0,.lit .u32 0,.lit .u32 0,.lit .u32 0,.lit .u32 0,.lit .u32 0,.lit .u32 0,.lit .u32 0,.lit .u32 0,.lit .u32 0],[.bool,.int .u32,.int .u32,.int .u32,.int .u32,.int .u32,.int .u32,.int .u32,.int .u32,.int .u32,.int .u32,.int .u32,.int .u32,.int .u32,.int .u32,.int .u32,.int .u32]⟩),(72,⟨86,.struct [(0,1,false),(1,17,true),(18,17,true),(35,17,true),(52,17,true),(69,17,true)],[.lit .i64 0,.aG false,.lit .u32 0,.lit .u32 0,.lit .u32 0,.lit .u32 0,.lit .u32 0,.lit .u32 0,.lit .u32 0,.lit .u32 0,.lit .u32 0,.lit .u32 0,.lit .u32 0,.lit .u32 0,.lit .u32 0,.lit .u32 0,.lit .u32 0,.lit .u32 0,.aG false,.lit .u32 0,.lit .u32 0,.lit .u32 0,.lit .u32 0,.lit .u32 0,.lit .u32 0,.lit .u32 0,.lit .u32 0,.lit .u32 0,.lit .u32 0,.lit .u32 0,.lit .u32 0,.lit .u32 0,.lit .u32 0,.lit .u32 0,.lit .u32 0,.aG false,.lit .u32 0,.lit .u32 0,.lit .u32 0,.lit .u32 0,.lit .u32 0,.lit .u32 0,.lit .u32 0,.lit .u32 0,.lit .u32 0,.lit .u32 0,.lit .u32 0,.lit .u32 0,.lit .u32 0,.lit .u32 0,.lit .u32 0,.lit .u32 0,.aG false,.lit .u32 0,.lit .u32 0,.lit .u32 0,.lit .u32 0,.lit .u32 0,.lit .u32 0,.lit .u32 0,.lit .u32 0,.lit .u32 0,.lit .u32 0,.lit .u32 0,.lit .u32 0,.lit .u32 0,.lit .u32 0,.lit .u32 0,.lit .u32 0,.aG false,.lit .u32 0,.lit .u32 0,.lit .u32 0,.lit .u32 0,.lit .u32 0,.lit .u32 0,.lit .u32 0,.lit .u32 0,.lit .u32 0,.lit .u32 0,.lit .u32 0,.lit .u32 0,.lit .u32 0,.lit .u32 0,.lit .u32 0,.lit .u32 0],[]⟩),(73,⟨86,.struct [(0,1,false),(1,17,true),(18,17,true),(35,17,true),(52,17,true),(69,17,true)],[.lit .i64 0,.aG false,.lit .u32 0,.lit .u32 0,.lit .u32 0,.lit .u32 0,.lit .u32 0,.lit .u32 0,.lit .u32 0,.lit .u32 0,.lit .u32 0,.lit .u32 0,.lit .u32 0,.lit .u32 0,.lit .u32 0,.lit .u32 0,.lit .u32 0,.lit .u32 0,.aG false,.lit .u32 0,.lit .u32 0,.lit .u32 0,.lit .u32 0,.lit .u32 0,.lit .u32 0,.lit .u32 0,.lit .u32 0,.lit .u32 0,.lit .u32 0,.lit .u32 0,.lit .u32 0,.lit .u32 0,.lit .u32 0,.lit .u32 0,.lit .u32 0,.aG false,.lit .u32 0,.lit .u32 0,.lit .u32 0,.lit .u32 0,.lit .u32 0,.lit .u32 0,.lit .u32 0,.lit .u32 0,.lit .u32 0,.lit .u32 0,.lit .u32 0,.lit .u32 0,.lit .u32 0,.lit .u32 0,.lit .u32 0,.lit .u32 0,.aG false,.lit .u32 0,.lit .u32 0,.lit .u32 0,.lit .u32 0,.lit .u32 0,.lit .u32 0,.lit .u32 0,.lit .u32 0,.lit .u32 0,.lit .u32 0,.lit .u32 0,.lit .u32 0,.lit .u32 0,.lit .u32 0,.lit .u32 0,.lit .u32 0,.aG false,.lit .u32 0,.lit .u32 0,.lit .u32 0,.lit .u32 0,.lit .u32 0,.lit .u32 0,.lit .u32 0,.lit .u32 0,.lit .u32 0,.lit .u32 0,.lit .u32 0,.lit .u32 0,.lit .u32 0,.lit .u32 0,.lit .u32 0,.lit .u32 0],[]⟩),(75,⟨1,.other,[.un],[]⟩),(76,⟨1,.other,[.un],[]⟩),(78,⟨1,.other,[.un],[]⟩),(79,⟨1,.other,[.un],[]⟩),(81,⟨1,.other,[.un],[]⟩),(82,⟨1,.int .u64,[.lit .u64 0],[]⟩),(83,⟨1,.other,[.un],[]⟩),(84,⟨1,.other,[.un],[]⟩),(85,⟨1,.other,[.un],[]⟩),(86,⟨1,.other,[.un],[]⟩),(87,⟨1,.other,[.un],[]⟩),(88,⟨1,.other,[.un],[]⟩),(89,⟨1,.other,[.un],[]⟩),(91,⟨1,.other,[.un],[]⟩),(92,⟨1,.other,[.un],[]⟩),(94,⟨1,.other,[.un],[]⟩),(95,⟨3,.struct [(0,1,false),(1,1,false),(2,1,false)],[.lit .i64 0,.lit .i64 0,.lit .u8 0],[]⟩),(96,⟨3,.struct [(0,1,false),(1,1,false),(2,1,false)],[.lit .i64 0,.lit .i64 0,.lit .u8 0],[.int .i64,.int .i64,.int .u8]⟩),(97,⟨4,.struct [(0,1,false),(1,3,true)],[.lit .i64 0,.lit .i64 0,.lit .i64 0,.lit .u8 0],[]⟩),(98,⟨4,.struct [(0,1,false),(1,3,true)],[.lit .i64 0,.lit .i64 0,.lit .i64 0,.lit .u8 0],[.int .i64,.int .i64,.int .i64,.int .u8]⟩),(99,⟨1,.other,[.un],[]⟩),(100,⟨1,.other,[.un],[]⟩),(101,⟨1,.other,[.un],[]⟩),(102,⟨1,.other,[.un],[]⟩),(103,⟨1,.other,[.un],[]⟩),(104,⟨1,.other,[.un],[]⟩),(105,⟨1,.other,[.un],[]⟩),(106,⟨1,.other,[.un],[]⟩),(107,⟨1,.other,[.un],[]⟩),(108,⟨1,.other,[.un],[]⟩),(109,⟨1,.other,[.un],[]⟩),(110,⟨1,.other,[.un],[]⟩),(111,⟨1,.other,[.un],[]⟩),(112,⟨1,.other,[.un],[]⟩),(113,⟨1,.other,[.un],[]⟩),(114,⟨17,.struct [(0,1,false),(1,8,true),(9,8,true)],[.aG false,.lit .u32 0,.lit .u32 0,.lit .u32 0,.lit .u32 0,.lit .u32 0,.lit .u32 0,.lit .u32 0,.lit .u32 0,.lit .u32 0,.lit .u32 0,.lit .u32 0,.lit .u32 0,.lit .u32 0,.lit .u32 0,.lit .u32 0,.lit .u32 0],[.bool,.int .u32,.int .u32,.int .u32,.int .u32,.int .u32,.int .u32,.int .u32,.int .u32,.int .u32,.int .u32,.int .u32,.int .u32,.int .u32,.int .u32,.int .u32,.int .u32]⟩),(115,⟨86,.struct [(0,1,false),(1,17,true),(18,17,true),(35,17,true),(52,17,true),(69,17,true)],[.lit .i64 0,.aG false,.lit .u32 0,.lit .u32 0,.lit .u32 0,.lit .u32 0,.lit .u32 0,.lit .u32 0,.lit .u32 0,.lit .u32 0,.lit .u32 0,.lit .u32 0,.lit .u32 0,.lit .u32 0,.lit .u32 0,.lit .u32 0,.lit .u32 0,.lit .u32 0,.aG false,.lit .u32 0,.lit .u32 0,.lit .u32 0,.lit .u32 0,.lit .u32 0,.lit .u32 0,.lit .u32 0,.lit .u32 0,.lit .u32 0,.lit .u32 0,.lit .u32 0,.lit .u32 0,.lit .u32 0,.lit .u32 0,.lit .u32 0,.lit .u32 0,.aG false,.lit .u32 0,.lit .u32 0,.lit .u32 0,.lit .u32 0,.lit .u32 0,.lit .u32 0,.lit .u32 0,.lit .u32 0,.lit .u32 0,.lit .u32 0,.lit .u32 0,.lit .u32 0,.lit .u32 0,.lit .u32 0,.lit .u32 0,.lit .u32 0,.aG false,.lit .u32 0,.lit .u32 0,.lit .u32 0,.lit .u32 0,.lit .u32 0,.lit .u32 0,.lit .u32 0,.lit .u32 0,.lit .u32 0,.lit .u32 0,.lit .u32 0,.lit .u32 0,.lit .u32 0,.lit .u32 0,.lit .u32 0,.lit .u32 0,.aG false,.lit .u32 0,.lit .u32 0,.lit .u32 0,.lit .u32 0,.lit .u32 0,.lit .u32 0,.lit .u32 0,.lit .u32 0,.lit .u32 0,.lit .u32 0,.lit .u32 0,.lit .u32 0,.lit .u32 0,.lit .u32 0,.lit .u32 0,.lit .u32 0],[]⟩),(116,⟨86,.struct [(0,1,false),(1,17,true),(18,17,true),(35,17,true),(52,17,true),(69,17,true)],[.lit .i64 0,.aG false,.lit .u32 0,.lit .u32 0,.lit .u32 0,.lit .u32 0,.lit .u32 0,.lit .u32 0,.lit .u32 0,.lit .u32 0,.lit .u32 0,.lit .u32 0,.lit .u32 0,.lit .u32 0,.lit .u32 0,.lit .u32 0,.lit .u32 0,.lit .u32 0,.aG false,.lit .u32 0,.lit .u32 0,.lit .u32 0,.lit .u32 0,.lit .u32 0,.lit .u32 0,.lit .u32 0,.lit .u32 0,.lit .u32 0,.lit .u32 0,.lit .u32 0,.lit .u32 0,.lit .u32 0,.lit .u32 0,.lit .u32 0,.lit .u32 0,.aG false,.lit .u32 0,.lit .u32 0,.lit .u32 0,.lit .u32 0,.lit .u32 0,.lit .u32 0,.lit .u32 0,.lit .u32 0,.lit .u32 0,.lit .u32 0,.lit .u32 0,.lit .u32 0,.lit .u32 0,.lit .u32 0,.lit .u32 0,.lit .u32 0,.aG false,.lit .u32 0,.lit .u32 0,.lit .u32 0,.lit .u32 0,.lit .u32 0,.lit .u32 0,.lit .u32 0,.lit .u32 0,.lit .u32 0,.lit .u32 0,.lit .u32 0,.lit .u32 0,.lit .u32 0,.lit .u32 0,.lit .u32 0,.lit .u32 0,.aG false,.lit .u32 0,.lit .u32 0,.lit .u32 0,.lit .u32 0,.lit .u32 0,.lit .u32 0,.lit .u32 0,.lit .u32 0,.lit .u32 0,.lit .u32 0,.lit .u32 0,.lit .u32 0,.lit .u32 0,.lit .u32 0,.lit .u32 0,.lit .u32 0],[]⟩),(118,⟨1,.other,[.un],[]⟩),(120,⟨1,.other,[.un],[]⟩),(121,⟨1,.other,[.un],[]⟩),(122,⟨1,.other,[.un],[]⟩),(123,⟨1,.other,[.un],[]⟩),(125,⟨1,.other,[.un],[]⟩),(126,⟨1,.other,[.un],[]⟩),(127,⟨1,.other,[.un],[]⟩),(128,⟨1,.other,[.un],[]⟩),(129,⟨1,.other,[.un],[]⟩),(131,⟨1,.other,[.un],[]⟩),(132,⟨1,.other,[.un],[]⟩),(133,⟨1,.other,[.un],[]⟩),(134,⟨1,.slice 141 12 88,[.nil],[]⟩),(136,⟨1,.other,[.un],[]⟩),(137,⟨1,.slice 62 4 32,[.nil],[]⟩),(138,⟨9,.struct [(0,1,false),(1,1,false),(2,1,false),(3,1,false),(4,1,false),(5,1,false),(6,1,false),(7,1,false),(8,1,false)],[.lit .i64 0,.str fun _=>ic,.lit .u8 0,.aG false,.lit .i64 0,.lit .i64 0,.lit .i64 0,.lit .u8 0,.aG false],[]⟩),(139,⟨9,.struct [(0,1,false),(1,1,false),(2,1,false),(3,1,false),(4,1,false),(5,1,false),(6,1,false),(7,1,false),(8,1,false)],[.lit .i64 0,.str fun _=>ic,.lit .u8 0,.aG false,.lit .i64 0,.lit .i64 0,.lit .i64 0,.lit .u8 0,.aG false],[.int .i64,.str,.int .u8,.bool,.int .i64,.int .i64,.int .i64,.int .u8,.bool]⟩),(140,⟨12,.struct [(0,9,true),(9,1,false),(10,1,false),(11,1,false)],[.lit .i64 0,.str fun _=>ic,.lit .u8 0,.aG false,.lit .i64 0,.lit .i64 0,.lit .i64 0,.lit .u8 0,.aG false,.lit .i64 0,.lit .i64 0,.lit .i64 0],[]⟩),(141,⟨12,.struct [(0,9,true),(9,1,false),(10,1,false),(11,1,false)],[.lit .i64 0,.str fun _=>ic,.lit .u8 0,.aG false,.lit .i64 0,.lit .i64 0,.lit .i64 0,.lit .u8 0,.aG false,.lit .i64 0,.lit .i64 0,.lit .i64 0],[.int .i64,.str,.int .u8,.bool,.int .i64,.int .i64,.int .i64,.int .u8,.bool,.int .i64,.int .i64,.int .i64]⟩),(142,⟨1,.other,[.un],[]⟩),(143,⟨1,.other,[.un],[]⟩),(144,⟨1,.other,[.un],[]⟩),(145,⟨1,.other,[.un],[]⟩),(146,⟨1,.other,[.un],[]⟩),(147,⟨1,.other,[.un],[]⟩),(148,⟨1,.other,[.un],[]⟩),(149,⟨1,.other,[.un],[]⟩),(150,⟨1,.other,[.un],[]⟩),(151,⟨1,.other,[.un],[]⟩),(152,⟨1,.slice 52 1 4,[.nil],[]⟩),(153,⟨1,.slice 52 1 4,[.nil],[]⟩),(155,⟨1,.other,[.un],[]⟩),(156,⟨1,.other,[.un],[]⟩),(157,⟨1,.other,[.un],[]⟩),(158,⟨1,.other,[.un],[]⟩),(159,⟨1,.other,[.un],[]⟩),(160,⟨1,.int .u64,[.lit .u64 0],[]⟩),(161,⟨1,.other,[.un],[]⟩),(162,⟨1,.other,[.un],[]⟩),(163,⟨1,.other,[.un],[]⟩),(164,⟨1,.other,[.un],[]⟩),(165,⟨1,.other,[.un],[]⟩),(166,⟨1,.other,[.un],[]⟩),(167,⟨1,.other,[.un],[]⟩),(168,⟨1,.other,[.un],[]⟩),(169,⟨1,.other,[.un],[]⟩),(170,⟨1,.other,[.un],[]⟩),(171,⟨1,.other,[.un],[]⟩),(173,⟨1,.other,[.un],[]⟩),(174,⟨2,.struct [(0,1,false),(1,1,false)],[.lit .i64 0,.nil],[]⟩),(175,⟨2,.struct [(0,1,false),(1,1,false)],[.lit .i64 0,.nil],[]⟩),(176,⟨1,.other,[.un],[]⟩),(177,⟨1,.other,[.un],[]⟩),(178,⟨1,.other,[.un],[]⟩),(179,⟨1,.other,[.un],[]⟩),(180,⟨1,.other,[.un],[]⟩),(181,⟨1,.other,[.un],[]⟩),(182,⟨4,.struct [(0,1,false),(1,1,false),(2,1,false),(3,1,false)],[.lit .i64 0,.lit .i64 0,.lit .i64 0,.lit .i64 0],[.int .i64,.int .i64,.int .i64,.int .i64]⟩),(184,⟨1,.other,[.un],[]⟩),(185,⟨1,.other,[.un],[]⟩),(186,⟨1,.other,[.un],[]⟩),(187,⟨1,.other,[.un],[]⟩),(188,⟨1,.slice 182 4 32,[.nil],[]⟩),(189,⟨68,.struct [(0,17,true),(17,17,true),(34,17,true),(51,17,true)],[.aG false,.lit .u32 0,.lit .u32 0,.lit .u32 0,.lit .u32 0,.lit .u32 0,.lit .u32 0,.lit .u32 0,.lit .u32 0,.lit .u32 0,.lit .u32 0,.lit .u32 0,.lit .u32 0,.lit .u32 0,.lit .u32 0,.lit .u32 0,.lit .u32 0,.aG false,.lit .u32 0,.lit .u32 0,.lit .u32 0,.lit .u32 0,.lit .u32 0,.lit .u32 0,.lit .u32 0,.lit .u32 0,.lit .u32 0,.lit .u32 0,.lit .u32 0,.lit .u32 0,.lit .u32 0,.lit .u32 0,.lit .u32 0,.lit .u32 0,.aG false,.lit .u32 0,.lit .u32 0,.lit .u32 0,.lit .u32 0,.lit .u32 0,.lit .u32 0,.lit .u32 0,.lit .u32 0,.lit .u32 0,.lit .u32 0,.lit .u32 0,.lit .u32 0,.lit .u32 0,.lit .u32 0,.lit .u32 0,.lit .u32 0,.aG false,.lit .u32 0,.lit .u32 0,.lit .u32 0,.lit .u32 0,.lit .u32 0,.lit .u32 0,.lit .u32 0,.lit .u32 0,.lit .u32 0,.lit .u32 0,.lit .u32 0,.lit .u32 0,.lit .u32 0,.lit .u32 0,.lit .u32 0,.lit .u32 0],[]⟩),(190,⟨68,.struct [(0,17,true),(17,17,true),(34,17,true),(51,17,true)],[.aG false,.lit .u32 0,.lit .u32 0,.lit .u32 0,.lit .u32 0,.lit .u32 0,.lit .u32 0,.lit .u32 0,.lit .u32 0,.lit .u32 0,.lit .u32 0,.lit .u32 0,.lit .u32 0,.lit .u32 0,.lit .u32 0,.lit .u32 0,.lit .u32 0,.aG false,.lit .u32 0,.lit .u32 0,.lit .u32 0,.lit .u32 0,.lit .u32 0,.lit .u32 0,.lit .u32 0,.lit .u32 0,.lit .u32 0,.lit .u32 0,.lit .u32 0,.lit .u32 0,.lit .u32 0,.lit .u32 0,.lit .u32 0,.lit .u32 0,.aG false,.lit .u32 0,.lit .u32 0,.lit .u32 0,.lit .u32 0,.lit .u32 0,.lit .u32 0,.lit .u32 0,.lit .u32 0,.lit .u32 0,.lit .u32 0,.lit .u32 0,.lit .u32 0,.lit .u32 0,.lit .u32 0,.lit .u32 0,.lit .u32 0,.aG false,.lit .u32 0,.lit .u32 0,.lit .u32 0,.lit .u32 0,.lit .u32 0,.lit .u32 0,.lit .u32 0,.lit .u32 0,.lit .u32 0,.lit .u32 0,.lit .u32 0,.lit .u32 0,.lit .u32 0,.lit .u32 0,.lit .u32 0,.lit .u32 0],[]⟩),(192,⟨1,.other,[.un],[]⟩),(194,⟨1,.other,[.un],[]⟩),(195,⟨1,.other,[.un],[]⟩),(196,⟨1,.other,[.un],[]⟩),(197,⟨1,.other,[.un],[]⟩),(198,⟨1,.other,[.un],[]⟩),(199,⟨1,.other,[.un],[]⟩),(200,⟨1,.other,[.un],[]⟩),(201,⟨1,.other,[.un],[]⟩),(202,⟨1,.other,[.un],[]⟩),(203,⟨1,.other,[.un],[]⟩),(205,⟨1,.other,[.un],[]⟩),(206,⟨1,.other,[.un],[]⟩),(207,⟨1,.other,[.un],[]⟩),(208,⟨1,.other,[.un],[]⟩),(209,⟨1,.other,[.un],[]⟩),(210,⟨1,.other,[.un],[]⟩),(211,⟨1,.other,[.un],[]⟩),(212,⟨1,.slice 360 1 24,[.nil],[]⟩),(213,⟨1,.slice 55 1 24,[.nil],[]⟩),(214,⟨1,.slice 22 1 24,[.nil],[]⟩),(215,⟨1,.slice 23 1 24,[.nil],[]⟩),(216,⟨1,.slice 26 1 24,[.nil],[]⟩),(217,⟨1,.slice 27 1 24,[.nil],[]⟩),(218,⟨1,.slice 28 1 24,[.nil],[]⟩),(219,⟨1,.slice 363 1 24,[.nil],[]⟩),(220,⟨1,.slice 327 1 24,[.nil],[]⟩),(221,⟨1,.slice 33 1 24,[.nil],[]⟩),(222,⟨1,.slice 34 1 24,[.nil],[]⟩),(223,⟨1,.slice 222 1 24,[.nil],[]⟩),(224,⟨1,.slice 38 1 24,[.nil],[]⟩),(225,⟨1,.slice 368 1 24,[.nil],[]⟩),(226,⟨1,.slice 373 1 24,[.nil],[]⟩),(227,⟨1,.slice 377 1 24,[.nil],[]⟩),(228,⟨1,.slice 227 1 24,[.nil],[]⟩),(229,⟨1,.slice 383 1 24,[.nil],[]⟩),(230,⟨1,.slice 387 1 24,[.nil],[]⟩),(231,⟨1,.slice 391 1 24,[.nil],[]⟩),(232,⟨21,.struct [(0,1,false),(1,1,false),(2,1,false),(3,1,false),(4,1,false),(5,1,false),(6,1,false),(7,1,false),(8,1,false),(9,1,false),(10,1,false),(11,1,false),(12,1,false),(13,1,false),(14,1,false),(15,1,false),(16,1,false),(17,1,false),(18,1,false),(19,1,false),(20,1,false)],[.nil,.nil,.nil,.nil,.nil,.nil,.nil,.nil,.nil,.nil,.nil,.nil,.nil,.nil,.nil,.nil,.nil,.nil,.nil,.nil,.nil],[]⟩),(233,⟨21,.struct [(0,1,false),(1,1,false),(2,1,false),(3,1,false),(4,1,false),(5,1,false),(6,1,false),(7,1,false),(8,1,false),(9,1,false),(10,1,false),(11,1,false),(12,1,false),(13,1,false),(14,1,false),(15,1,false),(16,1,false),(17,1,false),(18,1,false),(19,1,false),(20,1,false)],[.nil,.nil,.nil,.nil,.nil,.nil,.nil,.nil,.nil,.nil,.nil,.nil,.nil,.nil,.nil,.nil,.nil,.nil,.nil,.nil,.nil],[]⟩),(234,⟨1,.other,[.un],[]⟩),(235,⟨1,.other,[.un],[]⟩),(237,⟨1,.other,[.un],[]⟩),(238,⟨6,.struct [(0,1,false),(1,1,false),(2,1,false),(3,1,false),(4,1,false),(5,1,false)],[.lit .u8 0,.lit .u8 0,.lit .i16 0,.lit .i16 0,.lit .i16 0,.lit .u16 0],[]⟩),(239,⟨6,.struct [(0,1,false),(1,1,false),(2,1,false),(3,1,false),(4,1,false),(5,1,false)],[.lit .u8 0,.lit .u8 0,.lit .i16 0,.lit .i16 0,.lit .i16 0,.lit .u16 0],[.int .u8,.int .u8,.int .i16,.int .i16,.int .i16,.int .u16]⟩),(240,⟨1,.other,[.un],[]⟩),(241,⟨1,.other,[.un],[]⟩),(242,⟨1,.other,[.un],[]⟩),(243,⟨1,.map 246 3 (.arr 2 (.int .i64)) .int false,[.un],[]⟩),(245,⟨1,.other,[.un],[]⟩),(246,⟨2,.array 2 3 1 false,[.lit .i64 0,.lit .i64 0],[.int .i64,.int .i64]⟩),(247,⟨1,.other,[.un],[]⟩),(248,⟨1,.other,[.un],[]⟩),(249,⟨1,.other,[.un],[]⟩),(250,⟨1,.other,[.un],[]⟩),(251,⟨68,.struct [(0,17,true),(17,17,true),(34,17,true),(51,17,true)],[.aG false,.lit .u32 0,.lit .u32 0,.lit .u32 0,.lit .u32 0,.lit .u32 0,.lit .u32 0,.lit .u32 0,.lit .u32 0,.lit .u32 0,.lit .u32 0,.lit .u32 0,.lit .u32 0,.lit .u32 0,.lit .u32 0,.lit .u32 0,.lit .u32 0,.aG false,.lit .u32 0,.lit .u32 0,.lit .u32 0,.lit .u32 0,.lit .u32 0,.lit .u32 0,.lit .u32 0,.lit .u32 0,.lit .u32 0,.lit .u32 0,.lit .u32 0,.lit .u32 0,.lit .u32 0,.lit .u32 0,.lit .u32 0,.lit .u32 0,.aG false,.lit .u32 0,.lit .u32 0,.lit .u32 0,.lit .u32 0,.lit .u32 0,.lit .u32 0,.lit .u32 0,.lit .u32 0,.lit .u32 0,.lit .u32 0,.lit .u32 0,.lit .u32 0,.lit .u32 0,.lit .u32 0,.lit .u32 0,.lit .u32 0,.aG false,.lit .u32 0,.lit .u32 0,.lit .u32 0,.lit .u32 0,.lit .u32 0,.lit .u32 0,.lit .u32 0,.lit .u32 0,.lit .u32 0,.lit .u32 0,.lit .u32 0,.lit .u32 0,.lit .u32 0,.lit .u32 0,.lit .u32 0,.lit .u32 0],[]⟩),(252,⟨68,.struct [(0,17,true),(17,17,true),(34,17,true),(51,17,true)],[.aG false,.lit .u32 0,.lit .u32 0,.lit .u32 0,.lit .u32 0,.lit .u32 0,.lit .u32 0,.lit .u32 0,.lit .u32 0,.lit .u32 0,.lit .u32 0,.lit .u32 0,.lit .u32 0,.lit .u32 0,.lit .u32 0,.lit .u32 0,.lit .u32 0,.aG false,.lit .u32 0,.lit .u32 0,.lit .u32 0,.lit .u32 0,.lit .u32 0,.lit .u32 0,.lit .u32 0,.lit .u32 0,.lit .u32 0,.lit .u32 0,.lit .u32 0,.lit .u32 0,.lit .u32 0,.lit .u32 0,.lit .u32 0,.lit .u32 0,.aG false,.lit .u32 0,.lit .u32 0,.lit .u32 0,.lit .u32 0,.lit .u32 0,.lit .u32 0,.lit .u32 0,.lit .u32 0,.lit .u32 0,.lit .u32 0,.lit .u32 0,.lit .u32 0,.lit .u32 0,.lit .u32 0,.lit .u32 0,.lit .u32 0,.aG false,.lit .u32 0,.lit .u32 0,.lit .u32 0,.lit .u32 0,.lit .u32 0,.lit .u32 0,.lit .u32 0,.lit .u32 0,.lit .u32 0,.lit .u32 0,.lit .u32 0,.lit .u32 0,.lit .u32 0,.lit .u32 0,.lit .u32 0,.lit .u32 0],[]⟩),(254,⟨1,.other,[.un],[]⟩),(255,⟨51,.struct [(0,17,true),(17,17,true),(34,17,true)],[.aG false,.lit .u32 0,.lit .u32 0,.lit .u32 0,.lit .u32 0,.lit .u32 0,.lit .u32 0,.lit .u32 0,.lit .u32 0,.lit .u32 0,.lit .u32 0,.lit .u32 0,.lit .u32 0,.lit .u32 0,.lit .u32 0,.lit .u32 0,.lit .u32 0,.aG false,.lit .u32 0,.lit .u32 0,.lit .u32 0,.lit .u32 0,.lit .u32 0,.lit .u32 0,.lit .u32 0,.lit .u32 0,.lit .u32 0,.lit .u32 0,.lit .u32 0,.lit .u32 0,.lit .u32 0,.lit .u32 0,.lit .u32 0,.lit .u32 0,.aG false,.lit .u32 0,.lit .u32 0,.lit .u32 0,.lit .u32 0,.lit .u32 0,.lit .u32 0,.lit .u32 0,.lit .u32 0,.lit .u32 0,.lit .u32 0,.lit .u32 0,.lit .u32 0,.lit .u32 0,.lit .u32 0,.lit .u32 0,.lit .u32 0],[]⟩),(256,⟨51,.struct [(0,17,true),(17,17,true),(34,17,true)],[.aG false,.lit .u32 0,.lit .u32 0,.lit .u32 0,.lit .u32 0,.lit .u32 0,.lit .u32 0,.lit .u32 0,.lit .u32 0,.lit .u32 0,.lit .u32 0,.lit .u32 0,.lit .u32 0,.lit .u32 0,.lit .u32 0,.lit .u32 0,.lit .u32 0,.aG false,.lit .u32 0,.lit .u32 0,.lit .u32 0,.lit .u32 0,.lit .u32 0,.lit .u32 0,.lit .u32 0,.lit .u32 0,.lit .u32 0,.lit .u32 0,.lit .u32 0,.lit .u32 0,.lit .u32 0,.lit .u32 0,.lit .u32 0,.lit .u32 0,.aG false,.lit .u32 0,.lit .u32 0,.lit .u32 0,.lit .u32 0,.lit .u32 0,.lit .u32 0,.lit .u32 0,.lit .u32 0,.lit .u32 0,.lit .u32 0,.lit .u32 0,.lit .u32 0,.lit .u32 0,.lit .u32 0,.lit .u32 0,.lit .u32 0],[.bool,.int .u32,.int .u32,.int .u32,.int .u32,.int .u32,.int .u32,.int .u32,.int .u32,.int .u32,.int .u32,.int .u32,.int .u32,.int .u32,.int .u32,.int .u32,.int .u32,.bool,.int .u32,.int .u32,.int .u32,.int .u32,.int .u32,.int .u32,.int .u32,.int .u32,.int .u32,.int .u32,.int .u32,.int .u32,.int .u32,.int .u32,.int .u32,.int .u32,.bool,.int .u32,.int .u32,.int .u32,.int .u32,.int .u32,.int .u32,.int .u32,.int .u32,.int .u32,.int .u32,.int .u32,.int .u32,.int .u32,.int .u32,.int .u32,.int .u32]⟩),(258,⟨1,.other,[.un],[]⟩),(259,⟨1,.other,[.un],[]⟩),(260,⟨1,.other,[.un],[]⟩),(261,⟨1,.other,[.un],[]⟩),(262,⟨1,.other,[.un],[]⟩),(263,⟨1,.other,[.un],[]⟩),(264,⟨1,.other,[.un],[]⟩),(265,⟨1,.other,[.un],[]⟩),(266,⟨4,.array 4 265 1 false,[.un,.un,.un,.un],[]⟩),(267,⟨1,.other,[.un],[]⟩),(268,⟨1,.map 269 3 (.arr 3 (.int .i64)) .int false,[.un],[]⟩),(269,⟨3,.array 3 3 1 false,[.lit .i64 0,.lit .i64 0,.lit .i64 0],[.int .i64,.int .i64,.int .i64]⟩),(270,⟨1,.other,[.un],[]⟩),(271,⟨1,.other,[.un],[]⟩),(272,⟨1,.other,[.un],[]⟩),(273,⟨1,.other,[.un],[]⟩),(274,⟨1,.other,[.un],[]⟩),(275,⟨1,.other,[.un],[]⟩),(276,⟨1,.other,[.un],[]⟩),(277,⟨1,.other,[.un],[]⟩),(278,⟨1,.other,[.un],[]⟩),(279,⟨1,.other,[.un],[]⟩),(280,⟨1,.other,[.un],[]⟩),(281,⟨5,.struct [(0,1,false),(1,1,false),(2,1,false),(3,1,false),(4,1,false)],[.lit .i64 0,.lit .i64 0,.lit .i64 0,.lit .i64 0,.lit .i64 0],[]⟩),(282,⟨5,.struct [(0,1,false),(1,1,false),(2,1,false),(3,1,false),(4,1,false)],[.lit .i64 0,.lit .i64 0,.lit .i64 0,.lit .i64 0,.lit .i64 0],[.int .i64,.int .i64,.int .i64,.int .i64,.int .i64]⟩),(283,⟨1,.other,[.un],[]⟩),(284,⟨1,.other,[.un],[]⟩),(285,⟨1,.other,[.un],[]⟩),(286,⟨1,.other,[.un],[]⟩),(288,⟨1,.other,[.un],[]⟩),(289,⟨1,.other,[.un],[]⟩),(291,⟨1,.other,[.un],[]⟩),(292,⟨1,.other,[.un],[]⟩),(293,⟨1,.other,[.un],[]⟩),(294,⟨1,.other,[.un],[]⟩),(295,⟨1,.other,[.un],[]⟩),(296,⟨1,.other,[.un],[]⟩),(297,⟨1,.other,[.un],[]⟩),(298,⟨1,.other,[.un],[]⟩),(299,⟨1,.other,[.un],[]⟩),(300,⟨1,.other,[.un],[]⟩),(301,⟨1,.other,[.un],[]⟩),(302,⟨1,.other,[.un],[]⟩),(303,⟨1,.other,[.un],[]⟩),(304,⟨1,.other,[.un],[]⟩),(305,⟨1,.other,[.un],[]⟩),(306,⟨1,.other,[.un],[]⟩),(307,⟨1,.other,[.un],[]⟩),(308,⟨1,.other,[.un],[]⟩),(309,⟨1,.other,[.un],[]⟩),(310,⟨1,.other,[.un],[]⟩),(311,⟨1,.other,[.un],[]⟩),(312,⟨1,.other,[.un],[]⟩),(313,⟨1,.other,[.un],[]⟩),(314,⟨1,.other,[.un],[]⟩),(315,⟨1,.other,[.un],[]⟩),(316,⟨1,.other,[.un],[]⟩),(317,⟨1,.other,[.un],[]⟩),(318,⟨1,.other,[.un],[]⟩),(319,⟨1,.other,[.un],[]⟩),(320,⟨1,.other,[.un],[]⟩),(321,⟨1,.other,[.un],[]⟩),(322,⟨4,.struct [(0,1,false),(1,1,false),(2,1,false),(3,1,false)],[.lit .u8 0,.lit .u8 0,.lit .u8 0,.aG false],[]⟩),(323,⟨4,.struct [(0,1,false),(1,1,false),(2,1,false),(3,1,false)],[.lit .u8 0,.lit .u8 0,.lit .u8 0,.aG false],[.int .u8,.int .u8,.int .u8,.bool]⟩),(324,⟨1,.other,[.un],[]⟩),(325,⟨4,.struct [(0,1,false),(1,1,false),(2,1,false),(3,1,false)],[.lit .u8 0,.lit .u8 0,.aG false,.aG false],[]⟩),(326,⟨4,.struct [(0,1,false),(1,1,false),(2,1,false),(3,1,false)],[.lit .u8 0,.lit .u8 0,.aG false,.aG false],[.int .u8,.int .u8,.bool,.bool]⟩),(327,⟨1,.slice 96 3 24,[.nil],[]⟩),(328,⟨1,.other,[.un],[]⟩),(329,⟨1,.map 9 3 (.one .str) .int false,[.un],[]⟩),(330,⟨1,.other,[.un],[]⟩),(331,⟨1,.other,[.un],[]⟩),(332,⟨1,.other,[.un],[]⟩),(333,⟨1,.other,[.un],[]⟩),(334,⟨1,.other,[.un],[]⟩),(335,⟨1,.other,[.un],[]⟩),(336,⟨1,.other,[.un],[]⟩),(337,⟨1,.other,[.un],[]⟩),(339,⟨1,.other,[.un],[]⟩),(340,⟨1,.other,[.un],[]⟩),(341,⟨1,.other,[.un],[]⟩),(342,⟨68,.array 4 71 17 true,[.aG false,.lit .u32 0,.lit .u32 0,.lit .u32 0,.lit .u32 0,.lit .u32 0,.lit .u32 0,.lit .u32 0,.lit .u32 0,.lit .u32 0,.lit .u32 0,.lit .u32 0,.lit .u32 0,.lit .u32 0,.lit .u32 0,.lit .u32 0,.lit .u32 0,.aG false,.lit .u32 0,.lit .u32 0,.lit .u32 0,.lit .u32 0,.lit .u32 0,.lit .u32 0,.lit .u32 0,.lit .u32 0,.lit .u32 0,.lit .u32 0,.lit .u32 0,.lit .u32 0,.lit .u32 0,.lit .u32 0,.lit .u32 0,.lit .u32 0,.aG false,.lit .u32 0,.lit .u32 0,.lit .u32 0,.lit .u32 0,.lit .u32 0,.lit .u32 0,.lit .u32 0,.lit .u32 0,.lit .u32 0,.lit .u32 0,.lit .u32 0,.lit .u32 0,.lit .u32 0,.lit .u32 0,.lit .u32 0,.lit .u32 0,.aG false,.lit .u32 0,.lit .u32 0,.lit .u32 0,.lit .u32 0,.lit .u32 0,.lit .u32 0,.lit .u32 0,.lit .u32 0,.lit .u32 0,.lit .u32 0,.lit .u32 0,.lit .u32 0,.lit .u32 0,.lit .u32 0,.lit .u32 0,.lit .u32 0],[]⟩),(343,⟨1,.other,[.un],[]⟩),(344,⟨4,.array 4 343 1 false,[.un,.un,.un,.un],[]⟩),(345,⟨1,.other,[.un],[]⟩),(346,⟨1,.other,[.un],[]⟩),(347,⟨1,.other,[.un],[]⟩),(348,⟨1,.slice 350 3 24,[.nil],[]⟩),(349,⟨3,.struct [(0,1,false),(1,1,false),(2,1,false)],[.lit .i64 0,.lit .i64 0,.lit .i64 0],[]⟩),(350,⟨3,.struct [(0,1,false),(1,1,false),(2,1,false)],[.lit .i64 0,.lit .i64 0,.lit .i64 0],[.int .i64,.int .i64,.int .i64]⟩),(351,⟨1,.other,[.un],[]⟩),(352,⟨1,.other,[.un],[]⟩),(353,⟨1,.other,[.un],[]⟩),(354,⟨1,.other,[.un],[]⟩),(355,⟨1,.other,[.un],[]⟩),(356,⟨1,.other,[.un],[]⟩),(357,⟨1,.other,[.un],[]⟩),(358,⟨1,.other,[.un],[]⟩),(359,⟨1,.other,[.un],[]⟩),(360,⟨1,.slice 9 1 16,[.nil],[]⟩),(361,⟨1,.other,[.un],[]⟩),(362,⟨1,.other,[.un],[]⟩),(363,⟨1,.slice 32 13 184,[.nil],[]⟩),(364,⟨1,.other,[.un],[]⟩),(365,⟨1,.other,[.un],[]⟩),(366,⟨1,.other,[.un],[]⟩),(367,⟨1,.other,[.un],[]⟩),(368,⟨1,.slice 370 2 48,[.nil],[]⟩),(369,⟨2,.struct [(0,1,false),(1,1,false)],[.nil,.nil],[]⟩),(370,⟨2,.struct [(0,1,false),(1,1,false)],[.nil,.nil],[]⟩),(371,⟨1,.other,[.un],[]⟩),(372,⟨1,.other,[.un],[]⟩),(373,⟨1,.slice 375 3 32,[.nil],[]⟩),(374,⟨3,.struct [(0,1,false),(1,1,false),(2,1,false)],[.str fun _=>ic,.lit .i64 0,.lit .i64 0],[]⟩),(375,⟨3,.struct [(0,1,false),(1,1,false),(2,1,false)],[.str fun _=>ic,.lit .i64 0,.lit .i64 0],[.str,.int .i64,.int .i64]⟩),(376,⟨1,.other,[.un],[]⟩),(377,⟨1,.slice 379 2 16,[.nil],[]⟩),(378,⟨2,.struct [(0,1,false),(1,1,false)],[.lit .i64 0,.lit .i64 0],[]⟩),(379,⟨2,.struct [(0,1,false),(1,1,false)],[.lit .i64 0,.lit .i64 0],[.int .i64,.int .i64]⟩),(380,⟨1,.other,[.un],[]⟩),(381,⟨1,.other,[.un],[]⟩),(382,⟨1,.other,[.un],[]⟩),(383,⟨1,.slice 385 4 32,[.nil],[]⟩),(384,⟨4,.struct [(0,1,false),(1,1,false),(2,1,false),(3,1,false)],[.lit .i64 0,.lit .u8 0,.lit .i64 0,.lit .i64 0],[]⟩),(385,⟨4,.struct [(0,1,false),(1,1,false),(2,1,false),(3,1,false)],[.lit .i64 0,.lit .u8 0,.lit .i64 0,.lit .i64 0],[.int .i64,.int .u8,.int .i64,.int .i64]⟩),(386,⟨1,.other,[.un],[]⟩),(387,⟨1,.slice 389 6 48,[.nil],[]⟩),(388,⟨6,.struct [(0,1,false),(1,1,false),(2,3,true),(5,1,false)],[.lit .u8 0,.lit .i64 0,.lit .i64 0,.lit .i64 0,.lit .u8 0,.lit .i64 0],[]⟩),(389,⟨6,.struct [(0,1,false),(1,1,false),(2,3,true),(5,1,false)],[.lit .u8 0,.lit .i64 0,.lit .i64 0,.lit .i64 0,.lit .u8 0,.lit .i64 0],[.int .u8,.int .i64,.int .i64,.int .i64,.int .u8,.int .i64]⟩),(390,⟨1,.other,[.un],[]⟩),(391,⟨1,.slice 393 4 32,[.nil],[]⟩),(392,⟨4,.struct [(0,1,false),(1,1,false),(2,1,false),(3,1,false)],[.lit .i64 0,.lit .i64 0,.lit .i64 0,.lit .i64 0],[]⟩),(393,⟨4,.struct [(0,1,false),(1,1,false),(2,1,false),(3,1,false)],[.lit .i64 0,.lit .i64 0,.lit .i64 0,.lit .i64 0],[.int .i64,.int .i64,.int .i64,.int .i64]⟩),(394,⟨1,.other,[.un],[]⟩),(395,⟨1,.other,[.un],[]⟩),(396,⟨1,.other,[.un],[]⟩),(397,⟨1,.other,[.un],[]⟩),(398,⟨1,.other,[.un],[]⟩),(399,⟨1,.other,[.un],[]⟩),(400,⟨1,.other,[.un],[]⟩),(401,⟨1,.slice 37 1 8,[.nil],[]⟩),(402,⟨1,.other,[.un],[]⟩),(403,⟨1,.other,[.un],[]⟩),(404,⟨1,.other,[.un],[]⟩),(405,⟨1,.other,[.un],[]⟩),(406,⟨1,.other,[.un],[]⟩),(407,⟨1,.other,[.un],[]⟩),(408,⟨1,.other,[.un],[]⟩),(409,⟨1,.other,[.un],[]⟩),(410,⟨1,.other,[.un],[]⟩),(411,⟨1,.other,[.un],[]⟩),(412,⟨1,.other,[.un],[]⟩),(413,⟨1,.other,[.un],[]⟩),(414,⟨1,.other,[.un],[]⟩),(415,⟨1,.other,[.un],[]⟩),(417,⟨1,.other,[.un],[]⟩),(419,⟨1,.other,[.un],[]⟩),(420,⟨1,.other,[.un],[]⟩),(421,⟨1,.other,[.un],[]⟩),(422,⟨1,.other,[.un],[]⟩),(423,⟨1,.other,[.un],[]⟩),(424,⟨1,.other,[.un],[]⟩),(425,⟨1,.other,[.un],[]⟩),(426,⟨1,.other,[.un],[]⟩),(427,⟨1,.other,[.un],[]⟩),(428,⟨1,.other,[.un],[]⟩),(429,⟨1,.other,[.un],[]⟩),(430,⟨1,.other,[.un],[]⟩),(431,⟨11,.array 11 407 1 false,[.un,.un,.un,.un,.un,.un,.un,.un,.un,.un,.un],[]⟩),(432,⟨1,.other,[.un],[]⟩),(433,⟨1,.other,[.un],[]⟩),(434,⟨1,.other,[.un],[]⟩),(435,⟨4,.struct [(0,1,false),(1,1,false),(2,1,false),(3,1,false)],[.un,.un,.un,.str fun _=>ic],[]⟩),(437,⟨0,.array 0 16 1 false,[],[]⟩),(438,⟨0,.struct [(0,0,true)],[],[]⟩),(440,⟨1,.other,[.un],[]⟩),(443,⟨1,.other,[.un],[]⟩),(444,⟨1,.other,[.un],[]⟩),(447,⟨11,.struct [(0,1,false),(1,1,false),(2,1,false),(3,1,false),(4,1,false),(5,1,false),(6,1,false),(7,1,false),(8,1,false),(9,1,false),(10,1,false)],[.lit .u64 0,.lit .u64 0,.lit .u32 0,.lit .u8 0,.lit .u8 0,.lit .u8 0,.lit .u8 0,.un,.un,.lit .i32 0,.lit .i32 0],[]⟩)]
theorem ank:Az.all (fun p=>fT Tryz.prog p.1 p.2)=true:=by kernel_rfl
theorem aaU{α:Type}:∀ {l:List (Nat × α)} {k:Nat} {x : α},ak l k=some x->(k,x)∈l
 | (j,y)::l,k,x,h=>by
  rw [cu] at h;split at h
  . rename_i hk;subst hk;cases h;exact .head _
  . exact .tail _ (aaU h)
theorem aaV{P:Program}{tb:kd}(h:tb.all (fun p=>fT P p.1 p.2)=true):cS P tb:=fun _ _ hl=>dK.1 h _ (aaU hl)
theorem yM:cS Tryz.prog Az:=aaV ank
def KW:List (Nat×Tc) := [(3,.int),(5,.u8),(43,.bE),(46,.bD),(49,.ax),(52,.u32),(62,.ld),(63,.int),(71,.iu),(96,.slot),(98,.aq),(114,.iu),(139,.box),(141,.mid),(175,.e9),(182,.ld),(239,.ij),(282,.sM),(323,.fc),(326,.fO),(350,.pE)]
open Go.RowKit
def pb:List aH->Prop
 | []=>True
 | c::cs=>aK Tryz.prog c/\pb cs
theorem pb.mem:∀ {cs:List aH},pb cs->∀ c∈cs,aK Tryz.prog c
 | [],_,c,hc=>by cases hc
 | d::cs,h,c,hc=>by
  rcases fZ.1 hc with rfl|hc
  . exact h.1
  . exact pb.mem h.2 c hc
def qO:List fk->Prop
 | []=>True
 | c::cs=>gp Tryz.prog c/\qO cs
theorem qO.mem:∀ {cs:List fk},qO cs->∀ c∈cs,gp Tryz.prog c
 | [],_,c,hc=>by cases hc
 | d::cs,h,c,hc=>by
  rcases fZ.1 hc with rfl|hc
  . exact h.1
  . exact qO.mem h.2 c hc
def FU:List It->Prop
 | []=>True
 | c::cs=>pT Tryz.prog c/\FU cs
theorem FU.mem:∀ {cs:List It},FU cs->∀ c∈cs,pT Tryz.prog c
 | [],_,c,hc=>by cases hc
 | d::cs,h,c,hc=>by
  rcases fZ.1 hc with rfl|hc
  . exact h.1
  . exact FU.mem h.2 c hc
def KX(cs:List aH)(fs:List fk)(fz:List (Nat×List Nat))(fx:Bool)(nb:Nat:=0):Cx := { ty:=Az,cs:=cs,tc:=KW,fs:=fs,fz:=fz,fx:=fx,nb:=nb }
def Ru(cs:List aH)(fs:List fk)(fz:List (Nat×List Nat)):Cx:=KX cs fs fz false
def cx(cs:List aH)(fs:List fk):Cx:=Ru cs fs []
def cxk(cs:List aH)(fs:List fk)(fz kp:List (Nat×List Nat))(sc:List (Nat×mB))(ul:List Nat):Cx := { ty:=Az,cs:=cs,tc:=KW,fs:=fs,fz:=fz,kp:=kp,sc:=sc,ul:=ul }
structure Opt where
 fz:List (Nat×List Nat) := []
 kp:List (Nat×List Nat) := []
 sc:List (Nat×mB) := []
 ul:List Nat := []
 jn:List (Nat×List Nat) := []
 tc:List (Nat×Tc) := []
 lt:List (Nat×yf) := []
 ct:List Nat := []
def uX(o:Opt)(cs:List aH)(fs:List fk)(fx:Bool)(nb:Nat:=0):Cx:=⟨Az,cs,o.tc++KW,fs,o.fz,fx,o.kp,o.sc,o.ul,o.jn,o.lt,nb,o.ct,[],none⟩
theorem eE(o)(cs)(aC : pb cs)(fs)(iw : qO fs)(hf : Tryz.prog.funcs[c.f]? = some fn)(hb : (fn.body.isNone || fn.name == "runtime.NumGoroutine" || !codeOk (jo fs) o.sc o.lt fn.ntmps (kF fn)) = false)(h:∀ ai res,c.go ai=some res->res.pre ()->∃ Ls,(yp (uX o cs fs false) Ls fn ai res.av).P):aK Tryz.prog c:=by
 simp only [jZ,jY] at hb;exact FT (C:=uX o cs fs false) yM ⟨aC.mem,iw.mem,fun _ h=>by cases h⟩ rfl (by kernel_rfl) hf hb.1.1 hb.1.2 hb.2 h
theorem FV(o){c : fk}(cs)(aC : pb cs)(fs)(iw : qO fs)(hf : Tryz.prog.funcs[c.f]? = some fn)(hb : (fn.body.isNone || fn.name == "runtime.NumGoroutine" || !codeOk (jo fs) o.sc o.lt fn.ntmps (kF fn)) = false)(h:∀ ai es res,c.go ai es=some res->res.pre ()->∃ Ls,(Ab (uX o cs fs c.fix c.n) Ls fn ai es c.n res.av res.es).P):gp Tryz.prog c:=by
 simp only [jZ,jY] at hb;exact aaT (C:=uX o cs fs c.fix c.n) rfl yM ⟨aC.mem,iw.mem,fun _ h=>by cases h⟩ rfl (by kernel_rfl) hf hb.1.1 hb.1.2 hb.2 h
theorem FW(o)(cs)(aC : pb cs)(fs)(iw : qO fs)(lY)(anl : FU lY)(hf : Tryz.prog.funcs[c.f]? = some fn)(hb : (fn.body.isNone || fn.name == "runtime.NumGoroutine" || !codeOk (jo fs) o.sc o.lt fn.ntmps (kF fn)) = false)(h:∀ ai res,c.go ai=some res->res.pre ()->∃ Ls,(yp { uX o cs fs false with lY:=lY } Ls fn ai res.av).P):aK Tryz.prog c:=by
 simp only [jZ,jY] at hb;exact FT (C := { uX o cs fs false with lY:=lY }) yM ⟨aC.mem,iw.mem,anl.mem⟩ rfl (by kernel_rfl) hf hb.1.1 hb.1.2 hb.2 h
theorem Rv(o){c : It}(cs)(aC : pb cs)(hf : Tryz.prog.funcs[c.f]? = some fn)(hb : (fn.body.isNone || fn.name == "runtime.NumGoroutine" || !codeOk [999999999] o.sc o.lt fn.ntmps (kF fn)) = false)(h:∀ ai res,c.go ai=some res->res.pre ()->∀ l,∃ Ls,(PG (uX o cs [] false 1) Ls fn ai l res).P):pT Tryz.prog c:=by
 simp only [jZ,jY] at hb;exact ane (C:=uX o cs [] false 1) yM ⟨aC.mem,(fun _ h=>by cases h),fun _ h=>by cases h⟩ rfl (by kernel_rfl) hf hb.1.1 hb.1.2 hb.2 h
theorem aaY{α:Type}:∀ {l m:List (Nat × α)} {k:Nat} {x : α},ak (l++m) k=some x->ak l k=some x\/ak m k=some x
 | [],m,k,x,h => .inr h
 | (j,y)::l,m,k,x,h=>by
  rw [xu,cu] at h;rw [cu];split at h
  . rename_i hk;rw [aw hk];exact .inl h
  . rename_i hk;rw [ar hk];exact aaY h
theorem anm{P:Program}{W t:kd}(h:(W.all fun p=>fT P p.1 p.2)=true)(h2:cS P t):cS P (W++t):=fun T i hl=>(aaY hl).elim (aaV h T i) (h2 T i)
theorem ann(o : Opt)(W : kd)(hW : (W.all fun p => fT Tryz.prog p.1 p.2) = true)(cs : List aH)(aC : pb cs)(fs : List fk)(iw : qO fs)(hf : Tryz.prog.funcs[c.f]? = some fn)(hb : (fn.body.isNone || fn.name == "runtime.NumGoroutine" || !codeOk (jo fs) o.sc o.lt fn.ntmps (kF fn)) = false)(h:∀ ai res,c.go ai=some res->res.pre ()->∃ Ls,(yp { uX o cs fs false with ty:=W++Az } Ls fn ai res.av).P):aK Tryz.prog c:=by
 simp only [jZ,jY] at hb;exact FT (C := { uX o cs fs false with ty:=W++Az }) (anm hW yM) ⟨aC.mem,iw.mem,fun _ h=>by cases h⟩ rfl (by kernel_rfl) hf hb.1.1 hb.1.2 hb.2 h
theorem ano(fz kp)(sc)(cs)(aC : pb cs)(fs)(iw : qO fs)(hf : Tryz.prog.funcs[c.f]? = some fn)(hb : (fn.body.isNone || fn.name == "runtime.NumGoroutine" || !codeOk (jo fs) sc [] fn.ntmps (kF fn)) = false)(h:∀ ai res,c.go ai=some res->res.pre ()->∃ Ls,(yp (cxk cs fs fz kp sc []) Ls fn ai res.av).P):aK Tryz.prog c:=by
 simp only [jZ,jY] at hb;exact FT (C:=cxk cs fs fz kp sc []) yM ⟨aC.mem,iw.mem,fun _ h=>by cases h⟩ rfl (by kernel_rfl) hf hb.1.1 hb.1.2 hb.2 h
theorem anp(fz)(cs)(aC : pb cs)(fs)(iw : qO fs)(hf : Tryz.prog.funcs[c.f]? = some fn)(hb : (fn.body.isNone || fn.name == "runtime.NumGoroutine" || !codeOk (jo fs) [] [] fn.ntmps (kF fn)) = false)(h:∀ ai res,c.go ai=some res->res.pre ()->∃ Ls,(yp (Ru cs fs fz) Ls fn ai res.av).P):aK Tryz.prog c:=by
 simp only [jZ,jY] at hb;exact FT (C:=Ru cs fs fz) yM ⟨aC.mem,iw.mem,fun _ h=>by cases h⟩ rfl (by kernel_rfl) hf hb.1.1 hb.1.2 hb.2 h
theorem anq(cs)(aC : pb cs)(fs)(iw : qO fs)(hf : Tryz.prog.funcs[c.f]? = some fn)(hb : (fn.body.isNone || fn.name == "runtime.NumGoroutine" || !codeOk (jo fs) [] [] fn.ntmps (kF fn)) = false)(h:∀ ai res,c.go ai=some res->res.pre ()->∃ Ls,(yp (cx cs fs) Ls fn ai res.av).P):aK Tryz.prog c:=anp [] cs aC fs iw hf hb h
theorem cd(cs)(aC : pb cs)(hf : Tryz.prog.funcs[c.f]? = some fn)(hb : (fn.body.isNone || fn.name == "runtime.NumGoroutine" || !codeOk [] [] [] fn.ntmps (kF fn)) = false)(h:∀ ai res,c.go ai=some res->res.pre ()->∃ Ls,(yp (cx cs []) Ls fn ai res.av).P):aK Tryz.prog c:=anq cs aC [] trivial hf hb h
theorem anr(fz){c : fk}(cs)(aC : pb cs)(fs)(iw : qO fs)(hf : Tryz.prog.funcs[c.f]? = some fn)(hb : (fn.body.isNone || fn.name == "runtime.NumGoroutine" || !codeOk (jo fs) [] [] fn.ntmps (kF fn)) = false)(h:∀ ai es res,c.go ai es=some res->res.pre ()->∃ Ls,(Ab (KX cs fs fz c.fix c.n) Ls fn ai es c.n res.av res.es).P):gp Tryz.prog c:=by
 simp only [jZ,jY] at hb;exact aaT (C:=KX cs fs fz c.fix c.n) rfl yM ⟨aC.mem,iw.mem,fun _ h=>by cases h⟩ rfl (by kernel_rfl) hf hb.1.1 hb.1.2 hb.2 h
theorem AA{c : fk}(cs)(aC : pb cs)(fs)(iw : qO fs)(hf : Tryz.prog.funcs[c.f]? = some fn)(hb : (fn.body.isNone || fn.name == "runtime.NumGoroutine" || !codeOk (jo fs) [] [] fn.ntmps (kF fn)) = false)(h:∀ ai es res,c.go ai es=some res->res.pre ()->∃ Ls,(Ab (KX cs fs [] c.fix c.n) Ls fn ai es c.n res.av res.es).P):gp Tryz.prog c:=anr [] cs aC fs iw hf hb h
theorem cL(e : α)(h:∀ x,e=x->G):G:=h e rfl
theorem KY(l)(A):(Fm.vc l A).P=(ob l/\A.P):=rfl
theorem Rw(c)(A B):(Fm.br c A B).P=((c ()=true->A.P)/\(c ()=false->B.P)):=rfl
theorem FX(l):(Fm.fin l).P=ob l:=rfl
theorem Rx(A B):(Fm.and A B).P=(A.P/\B.P):=rfl
theorem Ry(F)(h)(x:F t):yj F h x=x:=rfl
theorem gV(k):NatCast.natCast k=(k:Int):=rfl
theorem aaZ(k):Nat.succ k=k+1:=rfl
theorem ans:ob []=True:=rfl
theorem wV(c):ob [c]=c ():=rfl
theorem CG(c d)(l):ob (c::d::l)=(c ()/\ob (d::l)):=rfl
theorem eta(f:Unit -> α):∃ x,f=fun _=>x:=⟨f (),rfl⟩
theorem Rz(k:Nat):((k:Int) - 1).toNat=k - 1:=oo
theorem aB:(∀ l A,(Fm.vc l A).P=(ob l/\A.P))/\(∀ c A B,(Fm.br c A B).P=((c ()=true->A.P)/\(c ()=false->B.P)))/\(∀ A B,(Fm.and A B).P=(A.P/\B.P))/\(∀ l,(Fm.fin l).P=ob l)/\ob []=True/\(∀ c,ob [c]=c ())/\(∀ c d l,ob (c::d::l)=(c ()/\ob (d::l)))/\(∀ (F) (t) (h) (x:F t),yj F h x=x)/\(∀ k,NatCast.natCast k=(k:Int))/\(∀ k,Nat.succ k=k+1)/\(∀ k:Nat,(k:Int).toNat=k)/\(∀ k:Nat,((k:Int) - 1).toNat=k - 1)/\(∀ (p) [Decidable p],(decide p=true)=p)/\(∀ (p) [Decidable p],(decide p=false)=¬ p)/\(∀ (α β:Type) (f : α -> β) (a) (l),List.map f (a::l)=f a::List.map f l)/\(∀ (α β:Type) (f : α -> β),List.map f [] = [])/\(∀ (α:Type) (a b : α),cond true a b=a)/\∀ (α:Type) (a b : α),cond false a b=b :=
 ⟨KY,Rw,Rx,FX,ans,wV,CG,fun _ _ h x=>Ry _ h x,gV,aaZ,dV,Rz,fun _ _=>aI,fun _ _=>propext fR,fun _ _ _ _ _=>rfl,fun _ _ _=>rfl,fun _ _ _=>rfl,fun _ _ _=>rfl⟩
theorem fm{F:Fm}(q:Q)(h:Q->F.P:=by intro q; (conv=>arg 1; cbv); simp (maxSteps:=4000000) only [aB,aR,aS,bw]; exact q):F.P:=h q
def AV.valOf:AV->Value
 | .int k n => .int k (n ())
 | .lit k n => .int k n
 | .bool b => .bool (b ())
 | .aG b => .bool b
 | .str s => .string (s ())
 | _=>undef
def AV.flat:AV->Bool
 | .int _ _=>true
 | .lit _ _=>true
 | .bool _=>true
 | .aG _=>true
 | .str _=>true
 | _=>false
section
variable{w w':World}{ρ ρ':Nat->Option Rl}{base kc:Nat}{ro ro':Nat->Prop}{v:Value}
theorem ah.FY{x:AV}(hx:x.flat=true)(h:ah w ρ base ro x v):v=x.valOf:=by
 cases x<;>simp only [AV.flat,dS] at hx
 . exact h.iA
 . exact h.mw
 . exact h.oR
 . exact h.pH
 . exact h.zM
theorem ant{x:AV}(hx:x.flat=true):ah w ρ base ro x x.valOf:=by
 cases x<;>simp only [AV.flat,dS] at hx
 . exact .int _ _
 . exact .lit _ _
 . exact .bool _
 . exact .aG _
 . exact .str _
theorem aQ.FY:∀ {l:List AV} {vs:List Value},l.all AV.flat=true->aQ w ρ base ro l vs->vs=l.map AV.valOf
 | [],vs,_,h=>h.none
 | x::l,vs,hl,h=>by
  simp only [H9,au] at hl
  cases vs with
  | nil=>have:=h.1; simp at this
  | cons v vs =>
   have h1:=h.2 0 x v rfl rfl;have h2:aQ w ρ base ro l vs:=⟨by have:=h.1; simpa using this,fun j y u hy hu=>h.2 (j+1) y u zF (by simpa using hu)⟩
   rw [h1.FY hl.1,aQ.FY hl.2 h2];rfl
theorem FZ:∀ {l:List AV},l.all AV.flat=true->aQ w ρ base ro l (l.map AV.valOf)
 | [],_ => .nil
 | x::l,hl=>by
  simp only [H9,au] at hl;exact .cons (ant hl.1) (FZ hl.2)
theorem ah.RA{l:List AV}(hl:l.all AV.flat=true)(h:ah w ρ base ro (.agg l) v):v = .agg (l.map AV.valOf).toArray:=by
 obtain⟨vs,rfl,hE⟩:=h.oS;rw [hE.FY hl]
theorem anu{l:List AV}(hl:l.all AV.flat=true):ah w ρ base ro (.agg l) (.agg (l.map AV.valOf).toArray):=by
 have hE:aQ w ρ base ro l (l.map AV.valOf):=FZ hl;exact .agg _ _ hE.1 hE.2
theorem RB{x y:AV}{u:Value}(hx:ah w ρ base ro x u)(hy:ah w ρ base ro y v):ah w ρ base ro (.aU [x,y]) (.tuple #[u,v]):=by
 have hE:aQ w ρ base ro [x,y] [u,v] := .cons hx (.cons hy .nil);exact .aU _ _ hE.1 hE.2
theorem ah.F0{fr:Bool}{l:Unit->List t.el}(f)(ht:∀ x,(aO fr t fun _=>x).all AV.flat=true)(hf:∀ x,(aO fr t fun _=>x).map AV.valOf=f x)(h:ah w ρ base ro (.sl fr t l) v):∃ A c,v = .slice A (l ()).length c/\(l ()).length<=c/\Rd w w.heap.size t.size A ((l ()).map f):=by
 obtain⟨A,c,css,h1,h2,h3,_,_,h6,rfl⟩:=h.pI;refine⟨A,c,rfl,oo,?_⟩;have:css=(l ()).map f:=by
  apply vG;intro k;rw [gY]
  cases hk:css[k]? with
  | none =>
   have:(l ())[k]? = none:=by rw [ahg] at hk ⊢; omega
   rw [this];rfl
  | some cs =>
   have aj:=(cM.1 hk).1;obtain⟨_,_,_,_,hl,_⟩:=h3 k cs hk;have hE:aQ w ρ base ro (aO fr t fun _=>(l ()).getD k t.aa) cs:=ux hl fun j y u hy hu=>h6 k cs j y u hk hy hu;rw [hE.FY (ht _),hf,bp oo,dv,ba,bp oo];rfl
 rwa [this] at h3
end
theorem AB(hf : Tryz.prog.funcs[c.f]? = some fn)(hb : (fn.body.isNone || fn.name == "runtime.NumGoroutine") = false)(h:∀ ai res,c.go ai=some res->∀ (w:World) (ra:Nat->Prop) (dt:List Value),aQ w (fun _=>none) 0 ra ai dt->res.pre ()->Calls Tryz.prog c.f dt.toArray w fun e w'=>∃ v,e = .returned v/\cU w w'/\ah w' (fun _=>none) w.heap.size (fun b=>ra b\/w.heap.size<=b) res.av v):aK Tryz.prog c:=by
 simp only [jZ] at hb;exact⟨fun args w=>wT hf hb.1 hb.2 args w,fun ai res jk w ra dt _ hE jm=>h ai res jk w ra dt hE jm⟩
structure Kd where
 T:Type
 sg:Sg
 av:(Unit->T)->AV
 to:AV->Option (Unit->T)
 ok:∀ {x f},to x=some f->x=av f
def CH(f:FuncId)(pre:Prop)(res:AV):aH:=⟨f,[],fun
 | []=>some ⟨fun _=>pre,res⟩
 | _=>none⟩
theorem KZ{f:FuncId}{pre:Prop}{res:AV}{ai:List AV}(h:(CH f pre res).go ai=some r):ai = []/\r=⟨fun _=>pre,res⟩:=by
 simp only [CH] at h;split at h
 case h_2=>cases h
 cases h;exact⟨rfl,rfl⟩
def dU(f:FuncId)(A:Kd)(pre:(Unit->A.T)->Prop)(res:(Unit->A.T)->AV):aH:=⟨f,[A.sg],fun
 | [x0]=>(A.to x0).bind fun a=>some ⟨fun _=>pre a,res a⟩
 | _=>none⟩
theorem eu{f:FuncId}{A:Kd}{pre:(Unit->A.T)->Prop}{res:(Unit->A.T)->AV}{ai:List AV}(h:(dU f A pre res).go ai=some r):∃ (a:A.T),ai = [A.av fun _=>a]/\r=⟨fun _=>pre fun _=>a,res fun _=>a ⟩:=by
 simp only [dU] at h;exact aa0
def df(f:FuncId)(A B:Kd)(pre:(Unit->A.T)->(Unit->B.T)->Prop)(res:(Unit->A.T)->(Unit->B.T)->AV):aH:=⟨f,[A.sg,B.sg],fun
 | [x0,x1]=>(A.to x0).bind fun a=>(B.to x1).bind fun b=>some ⟨fun _=>pre a b,res a b⟩
 | _=>none⟩
theorem dz{f:FuncId}{A B:Kd}{pre:(Unit->A.T)->(Unit->B.T)->Prop}{res:(Unit->A.T)->(Unit->B.T)->AV}{ai:List AV}(h:(df f A B pre res).go ai=some r):∃ (a:A.T) (b:B.T),ai = [A.av fun _=>a,B.av fun _=>b]/\r=⟨fun _=>pre (fun _=>a) fun _=>b,res (fun _=>a) fun _=>b ⟩:=by
 simp only [df] at h;exact aa1
def lE(f:FuncId)(A B C:Kd)(pre:(Unit->A.T)->(Unit->B.T)->(Unit->C.T)->Prop)(res:(Unit->A.T)->(Unit->B.T)->(Unit->C.T)->AV):aH:=⟨f,[A.sg,B.sg,C.sg],fun
 | [x0,x1,x2]=>(A.to x0).bind fun a=>(B.to x1).bind fun b=>(C.to x2).bind fun c=>some ⟨fun _=>pre a b c,res a b c⟩
 | _=>none⟩
theorem mO{f:FuncId}{A B C:Kd}{pre:(Unit->A.T)->(Unit->B.T)->(Unit->C.T)->Prop}{res:(Unit->A.T)->(Unit->B.T)->(Unit->C.T)->AV}{ai:List AV}(h:(lE f A B C pre res).go ai=some r):∃ (a:A.T) (b:B.T) (c:C.T),ai = [A.av fun _=>a,B.av fun _=>b,C.av fun _=>c]/\r=⟨fun _=>pre (fun _=>a) (fun _=>b) fun _=>c,res (fun _=>a) (fun _=>b) fun _=>c ⟩:=by
 simp only [lE] at h;split at h
 case h_2=>cases h
 simp only [lK,bI] at h;obtain⟨a,e0,b,e1,c,e2,rfl⟩:=h;obtain rfl:=A.ok e0;obtain rfl:=B.ok e1;obtain rfl:=C.ok e2;exact⟨a (),b (),c (),rfl,rfl⟩
def uY(f:FuncId)(A B C D:Kd)(pre:(Unit->A.T)->(Unit->B.T)->(Unit->C.T)->(Unit->D.T)->Prop)(res:(Unit->A.T)->(Unit->B.T)->(Unit->C.T)->(Unit->D.T)->AV):aH:=⟨f,[A.sg,B.sg,C.sg,D.sg],fun
 | [x0,x1,x2,x3]=>(A.to x0).bind fun a=>(B.to x1).bind fun b=>(C.to x2).bind fun c=>(D.to x3).bind fun d=>some ⟨fun _=>pre a b c d,res a b c d⟩
 | _=>none⟩
theorem yN{f:FuncId}{A B C D:Kd}{pre:(Unit->A.T)->(Unit->B.T)->(Unit->C.T)->(Unit->D.T)->Prop}{res:(Unit->A.T)->(Unit->B.T)->(Unit->C.T)->(Unit->D.T)->AV}{ai:List AV}(h:(uY f A B C D pre res).go ai=some r):∃ (a:A.T) (b:B.T) (c:C.T) (d:D.T),ai = [A.av fun _=>a,B.av fun _=>b,C.av fun _=>c,D.av fun _=>d]/\r=⟨fun _=>pre (fun _=>a) (fun _=>b) (fun _=>c) fun _=>d,res (fun _=>a) (fun _=>b) (fun _=>c) fun _=>d ⟩:=by
 simp only [uY] at h;split at h
 case h_2=>cases h
 simp only [lK,bI] at h;obtain⟨a,e0,b,e1,c,e2,d,e3,rfl⟩:=h;obtain rfl:=A.ok e0;obtain rfl:=B.ok e1;obtain rfl:=C.ok e2;obtain rfl:=D.ok e3;exact⟨a (),b (),c (),d (),rfl,rfl⟩
def K0(f:FuncId)(A B C D E:Kd)(pre:(Unit->A.T)->(Unit->B.T)->(Unit->C.T)->(Unit->D.T)->(Unit->E.T)->Prop)(res:(Unit->A.T)->(Unit->B.T)->(Unit->C.T)->(Unit->D.T)->(Unit->E.T)->AV):aH:=⟨f,[A.sg,B.sg,C.sg,D.sg,E.sg],fun
 | [x0,x1,x2,x3,x4]=>(A.to x0).bind fun a=>(B.to x1).bind fun b=>(C.to x2).bind fun c=>(D.to x3).bind fun d=>(E.to x4).bind fun e=>some ⟨fun _=>pre a b c d e,res a b c d e⟩
 | _=>none⟩
theorem aa2{f:FuncId}{A B C D E:Kd}{pre:(Unit->A.T)->(Unit->B.T)->(Unit->C.T)->(Unit->D.T)->(Unit->E.T)->Prop}{res:(Unit->A.T)->(Unit->B.T)->(Unit->C.T)->(Unit->D.T)->(Unit->E.T)->AV}{ai:List AV}(h:(K0 f A B C D E pre res).go ai=some r):∃ (a:A.T) (b:B.T) (c:C.T) (d:D.T) (e:E.T),ai = [A.av fun _=>a,B.av fun _=>b,C.av fun _=>c,D.av fun _=>d,E.av fun _=>e]/\r=⟨fun _=>pre (fun _=>a) (fun _=>b) (fun _=>c) (fun _=>d) fun _=>e,res (fun _=>a) (fun _=>b) (fun _=>c) (fun _=>d) fun _=>e ⟩:=by
 simp only [K0] at h;split at h
 case h_2=>cases h
 simp only [lK,bI] at h;obtain⟨a,e0,b,e1,c,e2,d,e3,e,e4,rfl⟩:=h;obtain rfl:=A.ok e0;obtain rfl:=B.ok e1;obtain rfl:=C.ok e2;obtain rfl:=D.ok e3;obtain rfl:=E.ok e4;exact⟨a (),b (),c (),d (),e (),rfl,rfl⟩
def anv:List Sg := [.int .i64,.str,.int .u8,.bool,.int .i64,.int .i64,.int .i64,.int .u8,.bool]
def anw:List Sg := [.int .i64,.int .i64,.int .i64,.int .u8]
def aa3:List Sg := [.int .i64,.int .i64,.int .u8]
def anx:List Sg := [.int .i64,.int .i64,.int .i64,.int .i64]
def anz:List Sg := [.int .i64,.int .i64,.bool,.int .i64,.int .i64,.int .i64,.int .i64,.int .i64,.sl .int,.int .i64,.int .i64,.int .i64]
def anA:List Sg := [.sl .ax,.sl .e9,.int .i64,.int .i64,.int .i64,.int .i64,.sl .bE,.sl .sM,.sl .bD,.int .i64,.int .i64,.int .i64,.int .i64]
structure aZ where
 aE:List dp
 dh:List lg
 lk:Int
 lx:Int
 ly:Int
 lz:Int
 rows:List cX
 uZ:List xF
 aM:List bX
 m1:Int
 m2:Int
 m3:Int
 m4:Int
def K1(b:Unit->aJ):List AV := [.int .i64 fun _=>(b ()).id,.str fun _=>(b ()).num,.int .u8 fun _=>(b ()).size,.bool fun _=>(b ()).high,.int .i64 fun _=>(b ()).af,.int .i64 fun _=>(b ()).load,.int .i64 fun _=>(b ()).kz,.int .u8 fun _=>(b ()).cls,.bool fun _=>(b ()).vU]
def u0(b:Unit->Ld):List AV := [.int .i64 fun _=>(b ()).af,.int .i64 fun _=>(b ()).x,.int .i64 fun _=>(b ()).y,.int .i64 fun _=>(b ()).z]
def aa4(b:Unit->ay):List AV := [.int .i64 fun _=>(b ()).box,.int .i64 fun _=>(b ()).ax,.int .i64 fun _=>(b ()).aF,.int .u8 fun _=>(b ()).half]
def aa5(b:Unit->Slot):List AV := [.int .i64 fun _=>(b ()).ax,.int .i64 fun _=>(b ()).aF,.int .u8 fun _=>(b ()).half]
def K3(b:Unit->dp):List AV := [.int .i64 fun _=>(b ()).cV,.int .i64 fun _=>(b ()).row,.bool fun _=>(b ()).fv,.int .i64 fun _=>(b ()).cW,.int .i64 fun _=>(b ()).mq,.int .i64 fun _=>(b ()).xG,.int .i64 fun _=>(b ()).xH,.int .i64 fun _=>(b ()).xI,.sl false .int fun _=>(b ()).fS,.int .i64 fun _=>(b ()).x,.int .i64 fun _=>(b ()).y,.int .i64 fun _=>(b ()).z]
def CI(b:Unit->aZ):List AV := [.sl false .ax fun _=>(b ()).aE,.sl false .e9 fun _=>(b ()).dh,.int .i64 fun _=>(b ()).lk,.int .i64 fun _=>(b ()).lx,.int .i64 fun _=>(b ()).ly,.int .i64 fun _=>(b ()).lz,.sl false .bE fun _=>(b ()).rows,.sl false .sM fun _=>(b ()).uZ,.sl false .bD fun _=>(b ()).aM,.int .i64 fun _=>(b ()).m1,.int .i64 fun _=>(b ()).m2,.int .i64 fun _=>(b ()).m3,.int .i64 fun _=>(b ()).m4]
def AV.dD:AV->Option (Unit->Int)
 | .int .i64 n=>some n
 | _=>none
def AV.AD:AV->Option (Unit->Int)
 | .int .u8 n=>some n
 | _=>none
def AV.CJ:AV->Option (Unit->Bool)
 | .bool n=>some n
 | _=>none
def AV.RC:AV->Option (Unit->ByteArray)
 | .str n=>some n
 | _=>none
def AV.K4:AV->Option (Unit->List dp)
 | .sl false .ax l=>some l
 | _=>none
def AV.RD:AV->Option (Unit->List lg)
 | .sl false .e9 l=>some l
 | _=>none
def AV.CK:AV->Option (Unit->List Int)
 | .sl false .int l=>some l
 | _=>none
def AV.RE:AV->Option (Unit->List aJ)
 | .sl false .box l=>some l
 | _=>none
def AV.K5:AV->Option (Unit->List ay)
 | .sl false .aq l=>some l
 | _=>none
def AV.RF:AV->Option (Unit->List Slot)
 | .sl false .slot l=>some l
 | _=>none
def AV.RG:AV->Option (Unit->List Ld)
 | .sl false .ld l=>some l
 | _=>none
def AV.RH:AV->Option (Unit->List Int)
 | .sl false .u8 l=>some l
 | _=>none
def AV.RI:AV->Option (Unit->List vV)
 | .sl false .pE l=>some l
 | _=>none
def AV.K6:AV->Option (Unit->List cX)
 | .sl false .bE l=>some l
 | _=>none
def AV.RJ:AV->Option (Unit->List xF)
 | .sl false .sM l=>some l
 | _=>none
def AV.K7:AV->Option (Unit->List bX)
 | .sl false .bD l=>some l
 | _=>none
def AV.RK:AV->Option (Unit->List iT)
 | .sl false .fc l=>some l
 | _=>none
def AV.RL:AV->Option (Unit->List iU)
 | .sl false .fO l=>some l
 | _=>none
def AV.RM:AV->Option (Unit->Int)
 | .int .u32 n=>some n
 | _=>none
def AV.RN:AV->Option (Unit->Int)
 | .bg [.int .i64 n] 0=>some n
 | _=>none
def AV.RO:AV->Option (Unit->Bool)
 | .bg [.bool n] 0=>some n
 | _=>none
def AV.RP(f:FuncId):AV->Option (Unit->Int)
 | .fn g [.bg [.int .i64 n] 0]=>if g=f then some n else none
 | _=>none
def AV.RQ(f:FuncId):AV->Option (Unit->Unit)
 | .fn g []=>if g=f then some fun _=>() else none
 | _=>none
theorem AV.dX{x:AV}(h:x.dD=some n):x = .int .i64 n:=by
 unfold AV.dD at h;split at h<;>cases h
 rfl
abbrev kI:Kd:=⟨Int,.int .i64,fun n => .int .i64 n,AV.dD,AV.dX⟩
theorem AV.F5{x:AV}(h:x.AD=some n):x = .int .u8 n:=by
 unfold AV.AD at h;split at h<;>cases h
 rfl
abbrev u1:Kd:=⟨Int,.int .u8,fun n => .int .u8 n,AV.AD,AV.F5⟩
theorem AV.K8{x:AV}{n:Unit->Bool}(h:x.CJ=some n):x = .bool n:=by
 unfold AV.CJ at h;split at h<;>cases h
 rfl
abbrev kB:Kd:=⟨Bool,.bool,fun n => .bool n,AV.CJ,AV.K8⟩
theorem AV.anB{x:AV}{n:Unit->ByteArray}(h:x.RC=some n):x = .str n:=by
 unfold AV.RC at h;split at h<;>cases h
 rfl
theorem AV.aa6{x:AV}{n:Unit->List dp}(h:x.K4=some n):x = .sl false .ax n:=by
 unfold AV.K4 at h;split at h<;>cases h
 rfl
theorem AV.anC{x:AV}{n:Unit->List lg}(h:x.RD=some n):x = .sl false .e9 n:=by
 unfold AV.RD at h;split at h<;>cases h
 rfl
theorem AV.K9{x:AV}{n:Unit->List Int}(h:x.CK=some n):x = .sl false .int n:=by
 unfold AV.CK at h;split at h<;>cases h
 rfl
abbrev nu:Kd:=⟨List Int,.sl .int,fun n => .sl false .int n,AV.CK,AV.K9⟩
theorem AV.anD{x:AV}{n:Unit->List aJ}(h:x.RE=some n):x = .sl false .box n:=by
 unfold AV.RE at h;split at h<;>cases h
 rfl
abbrev pZ:Kd:=⟨List aJ,.sl .box,fun n => .sl false .box n,AV.RE,AV.anD⟩
theorem AV.aa7{x:AV}{n:Unit->List ay}(h:x.K5=some n):x = .sl false .aq n:=by
 unfold AV.K5 at h;split at h<;>cases h
 rfl
abbrev u2:Kd:=⟨List ay,.sl .aq,fun n => .sl false .aq n,AV.K5,AV.aa7⟩
theorem AV.anE{x:AV}{n:Unit->List Slot}(h:x.RF=some n):x = .sl false .slot n:=by
 unfold AV.RF at h;split at h<;>cases h
 rfl
abbrev RS:Kd:=⟨List Slot,.sl .slot,fun n => .sl false .slot n,AV.RF,AV.anE⟩
theorem AV.anF{x:AV}{n:Unit->List Ld}(h:x.RG=some n):x = .sl false .ld n:=by
 unfold AV.RG at h;split at h<;>cases h
 rfl
abbrev anG:Kd:=⟨List Ld,.sl .ld,fun n => .sl false .ld n,AV.RG,AV.anF⟩
theorem AV.anH{x:AV}{n:Unit->List Int}(h:x.RH=some n):x = .sl false .u8 n:=by
 unfold AV.RH at h;split at h<;>cases h
 rfl
abbrev aa8:Kd:=⟨List Int,.sl .u8,fun n => .sl false .u8 n,AV.RH,AV.anH⟩
theorem AV.anI{x:AV}{n:Unit->List vV}(h:x.RI=some n):x = .sl false .pE n:=by
 unfold AV.RI at h;split at h<;>cases h
 rfl
abbrev anJ:Kd:=⟨List vV,.sl .pE,fun n => .sl false .pE n,AV.RI,AV.anI⟩
theorem AV.aa9{x:AV}{n:Unit->List cX}(h:x.K6=some n):x = .sl false .bE n:=by
 unfold AV.K6 at h;split at h<;>cases h
 rfl
abbrev La:Kd:=⟨List cX,.sl .bE,fun n => .sl false .bE n,AV.K6,AV.aa9⟩
theorem AV.anK{x:AV}{n:Unit->List xF}(h:x.RJ=some n):x = .sl false .sM n:=by
 unfold AV.RJ at h;split at h<;>cases h
 rfl
theorem AV.aba{x:AV}{n:Unit->List bX}(h:x.K7=some n):x = .sl false .bD n:=by
 unfold AV.K7 at h;split at h<;>cases h
 rfl
abbrev qP:Kd:=⟨List bX,.sl .bD,fun n => .sl false .bD n,AV.K7,AV.aba⟩
theorem AV.anL{x:AV}{n:Unit->List iT}(h:x.RK=some n):x = .sl false .fc n:=by
 unfold AV.RK at h;split at h<;>cases h
 rfl
abbrev abb:Kd:=⟨List iT,.sl .fc,fun n => .sl false .fc n,AV.RK,AV.anL⟩
theorem AV.anM{x:AV}{n:Unit->List iU}(h:x.RL=some n):x = .sl false .fO n:=by
 unfold AV.RL at h;split at h<;>cases h
 rfl
abbrev abc:Kd:=⟨List iU,.sl .fO,fun n => .sl false .fO n,AV.RL,AV.anM⟩
theorem AV.anN{x:AV}(h:x.RM=some n):x = .int .u32 n:=by
 unfold AV.RM at h;split at h<;>cases h
 rfl
abbrev RT:Kd:=⟨Int,.int .u32,fun n => .int .u32 n,AV.RM,AV.anN⟩
theorem AV.anO{x:AV}(h:x.RN=some n):x = .bg [.int .i64 n] 0:=by
 unfold AV.RN at h;split at h<;>cases h
 rfl
abbrev F6:Kd:=⟨Int,.bg [.int .i64],fun n => .bg [.int .i64 n] 0,AV.RN,AV.anO⟩
theorem AV.anP{x:AV}{n:Unit->Bool}(h:x.RO=some n):x = .bg [.bool n] 0:=by
 unfold AV.RO at h;split at h<;>cases h
 rfl
abbrev kPB:Kd:=⟨Bool,.bg [.bool],fun n => .bg [.bool n] 0,AV.RO,AV.anP⟩
theorem AV.anR{x:AV}{f:FuncId}(h:x.RP f=some n):x = .fn f [.bg [.int .i64 n] 0]:=by
 unfold AV.RP at h;split at h
 . split at h<;>cases h
   rename_i h;rw [h]
 . cases h
abbrev abd(f:FuncId):Kd:=⟨Int,.fn [.bg [.int .i64]],fun n => .fn f [.bg [.int .i64 n] 0],fun x=>x.RP f,AV.anR⟩
theorem AV.anS{x:AV}{f:FuncId}{n:Unit->Unit}(h:x.RQ f=some n):x = .fn f []:=by
 unfold AV.RQ at h;split at h
 . split at h<;>cases h
   rename_i h;rw [h]
 . cases h
abbrev F7(f:FuncId):Kd:=⟨Unit,.fn [],fun n => .fn f [],fun x=>x.RQ f,AV.anS⟩
def AV.Lb:AV->Option (Unit->aJ)
 | .agg [a,b,c,d,e,f,g,h,i]=>a.dD.bind fun a=>b.RC.bind fun b=>c.AD.bind fun c=>d.CJ.bind fun d=>e.dD.bind fun e=>f.dD.bind fun f=>g.dD.bind fun g=>h.AD.bind fun h=>i.CJ.bind fun i=>some fun _=>⟨a (),b (),c (),d (),e (),f (),g (),h (),i ()⟩
 | _=>none
def AV.axJ:AV->Option (Unit->sK)
 | .agg [a,b,c,d,e,f,g,h,i,x,y,z]=>(AV.Lb (.agg [a,b,c,d,e,f,g,h,i])).bind fun b=>x.dD.bind fun x=>y.dD.bind fun y=>z.dD.bind fun z=>some fun _=>⟨b (),x (),y (),z ()⟩
 | _=>none
def AV.RU:AV->Option (Unit->Ld)
 | .agg [a,b,c,d]=>a.dD.bind fun a=>b.dD.bind fun b=>c.dD.bind fun c=>d.dD.bind fun d=>some fun _=>⟨a (),b (),c (),d ()⟩
 | _=>none
def AV.RV:AV->Option (Unit->ay)
 | .agg [a,b,c,d]=>a.dD.bind fun a=>b.dD.bind fun b=>c.dD.bind fun c=>d.AD.bind fun d=>some fun _=>⟨a (),b (),c (),d ()⟩
 | _=>none
def AV.RW:AV->Option (Unit->Slot)
 | .agg [a,b,c]=>a.dD.bind fun a=>b.dD.bind fun b=>c.AD.bind fun c=>some fun _=>⟨a (),b (),c ()⟩
 | _=>none
def AV.RX:AV->Option (Unit->dp)
 | .agg [a,b,c,d,e,f,g,h,i,j,k,l]=>a.dD.bind fun a=>b.dD.bind fun b=>c.CJ.bind fun c=>d.dD.bind fun d=>e.dD.bind fun e=>f.dD.bind fun f=>g.dD.bind fun g=>h.dD.bind fun h=>i.CK.bind fun i=>j.dD.bind fun j=>k.dD.bind fun k=>l.dD.bind fun l=>some fun _=>⟨a (),b (),c (),d (),e (),f (),g (),h (),i (),j (),k (),l ()⟩
 | _=>none
def AV.RY:AV->Option (Unit->aZ)
 | .agg [a,b,c,d,e,f,g,h,i,j,k,l,m]=>a.K4.bind fun a=>b.RD.bind fun b=>c.dD.bind fun c=>d.dD.bind fun d=>e.dD.bind fun e=>f.dD.bind fun f=>g.K6.bind fun g=>h.RJ.bind fun h=>i.K7.bind fun i=>j.dD.bind fun j=>k.dD.bind fun k=>l.dD.bind fun l=>m.dD.bind fun m=>some fun _=>⟨a (),b (),c (),d (),e (),f (),g (),h (),i (),j (),k (),l (),m ()⟩
 | _=>none
theorem AV.anT{x:AV}{b:Unit->aJ}(h:x.Lb=some b):x = .agg (K1 b):=by
 unfold AV.Lb at h;split at h
 . simp only [lK,bI] at h;obtain⟨a,h1,b,h2,c,h3,d,h4,e,h5,f,h6,g,h7,i,h8,j,h9,rfl⟩:=h;rw [AV.dX h1,AV.anB h2,AV.F5 h3,AV.K8 h4,AV.dX h5,AV.dX h6,AV.dX h7,AV.F5 h8,AV.K8 h9];rfl
 . cases h
abbrev F8:Kd:=⟨aJ,.agg anv,fun b => .agg (K1 b),AV.Lb,AV.anT⟩
theorem AV.anU{x:AV}{b:Unit->Ld}(h:x.RU=some b):x = .agg (u0 b):=by
 unfold AV.RU at h;split at h
 . simp only [lK,bI] at h;obtain⟨a,h1,b,h2,c,h3,d,h4,rfl⟩:=h;rw [AV.dX h1,AV.dX h2,AV.dX h3,AV.dX h4];rfl
 . cases h
abbrev yO:Kd:=⟨Ld,.agg anx,fun b => .agg (u0 b),AV.RU,AV.anU⟩
theorem AV.anV{x:AV}{b:Unit->ay}(h:x.RV=some b):x = .agg (aa4 b):=by
 unfold AV.RV at h;split at h
 . simp only [lK,bI] at h;obtain⟨a,h1,b,h2,c,h3,d,h4,rfl⟩:=h;rw [AV.dX h1,AV.dX h2,AV.dX h3,AV.F5 h4];rfl
 . cases h
abbrev abe:Kd:=⟨ay,.agg anw,fun b => .agg (aa4 b),AV.RV,AV.anV⟩
theorem AV.anW{x:AV}{b:Unit->Slot}(h:x.RW=some b):x = .agg (aa5 b):=by
 unfold AV.RW at h;split at h
 . simp only [lK,bI] at h;obtain⟨a,h1,b,h2,c,h3,rfl⟩:=h;rw [AV.dX h1,AV.dX h2,AV.F5 h3];rfl
 . cases h
abbrev CL:Kd:=⟨Slot,.agg aa3,fun b => .agg (aa5 b),AV.RW,AV.anW⟩
theorem AV.anX{x:AV}{b:Unit->dp}(h:x.RX=some b):x = .agg (K3 b):=by
 unfold AV.RX at h;split at h
 . simp only [lK,bI] at h;obtain⟨a,h1,b,h2,c,h3,d,h4,e,h5,f,h6,g,h7,i,h8,j,h9,k,oO,l,qQ,m,RZ,rfl⟩:=h;rw [AV.dX h1,AV.dX h2,AV.K8 h3,AV.dX h4,AV.dX h5,AV.dX h6,AV.dX h7,AV.dX h8,AV.K9 h9,AV.dX oO,AV.dX qQ,AV.dX RZ];rfl
 . cases h
abbrev R0:Kd:=⟨dp,.agg anz,fun b => .agg (K3 b),AV.RX,AV.anX⟩
theorem AV.anY{x:AV}{b:Unit->aZ}(h:x.RY=some b):x = .agg (CI b):=by
 unfold AV.RY at h;split at h
 . simp only [lK,bI] at h;obtain⟨a,h1,b,h2,c,h3,d,h4,e,h5,f,h6,g,h7,i,h8,j,h9,k,oO,l,qQ,m,RZ,n,h13,rfl⟩:=h;rw [AV.aa6 h1,AV.anC h2,AV.dX h3,AV.dX h4,AV.dX h5,AV.dX h6,AV.aa9 h7,AV.anK h8,AV.aba h9,AV.dX oO,AV.dX qQ,AV.dX RZ,AV.dX h13];rfl
 . cases h
abbrev ou:Kd:=⟨aZ,.agg anA,fun b => .agg (CI b),AV.RY,AV.anY⟩
end Go.Proofs.YtlpikgchnjajmaaGreat
